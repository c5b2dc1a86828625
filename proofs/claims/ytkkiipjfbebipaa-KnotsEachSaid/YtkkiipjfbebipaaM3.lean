/- Merged by program: CodeA. -/
import Derived.Test.YtkkiipjfbebipaaM2
import Derived.Test.YtkkiipjfbebipaaProg
import Derived.ProofKit
/- The compact code of the functions, and that it is theirs. -/
namespace Go.Proofs.Ytkkiipjfbebipaa
open Go Go.V
set_option maxRecDepth 100000

/-- gosem.cut.init -/
def v2 : VC :=
 (.ops false [
   ⟨some 0, .call 1 [], none⟩] (some []))

theorem m2 : fmatch Try.prog Try.f2 0 [] v2 = true := by kernel_rfl

/-- steening/steeninglaw11.KnotsAsk -/
def v3 : VC :=
 (.seq
 (.ops false [
   ⟨some 1, .box 1 4 (.t 0), none⟩,
   ⟨some 2, .mov (.k (.bool false)), none⟩] (some [1]))
 (.seq
 (.seq
 (.ops false [
   ⟨some 10, .load 4 true (.t 1) [], none⟩,
   ⟨some 11, .call 16 [.t 10], none⟩] (some [1, 11]))
 (.cond (.t 11)
  (.seq
  (.ops false [
    ⟨some 12, .call 17 [], none⟩,
    ⟨some 2, .mov (.t 12), none⟩] (some [2]))
  .ret)
  .skip))
 (.seq
 (.ops false [
   ⟨some 13, .load 4 true (.t 1) [], none⟩,
   ⟨some 14, .call 18 [.t 13], none⟩,
   ⟨some 3, .alloc 3 [.int 0, .int 0, .sl 1 [] .full, .sl 2 [] .full], none⟩,
   ⟨none, .store 4 (.t 3) (.t 14) (some 3), none⟩] (some [1, 3]))
 (.seq
 (.ops false [
   ⟨some 16, .load 4 true (.t 3) [], none⟩,
   ⟨some 17, .call 19 [.t 16], none⟩,
   ⟨some 15, .mov (.t 17), none⟩,
   ⟨some 18, .ext (.t 15) 0, none⟩,
   ⟨some 19, .ext (.t 15) 1, none⟩,
   ⟨some 20, .ext (.t 15) 2, none⟩,
   ⟨some 4, .mov (.t 18), none⟩,
   ⟨some 5, .mov (.t 19), none⟩,
   ⟨some 6, .mov (.t 20), none⟩] (some [1, 3, 4, 5, 6]))
 (.seq
 (.ops false [
   ⟨some 22, .load 4 true (.t 1) [], none⟩,
   ⟨some 23, .call 20 [.t 22], none⟩,
   ⟨some 21, .mov (.t 23), none⟩,
   ⟨some 24, .ext (.t 21) 0, none⟩,
   ⟨some 25, .ext (.t 21) 1, none⟩,
   ⟨some 26, .ext (.t 21) 2, none⟩,
   ⟨some 7, .mov (.t 24), none⟩,
   ⟨some 8, .mov (.t 25), none⟩,
   ⟨some 9, .mov (.t 26), none⟩] (some [1, 3, 4, 5, 6, 7, 8, 9]))
 (.seq
 (.ops false [
   ⟨some 27, .mov (.t 4), none⟩,
   ⟨some 28, .mov (.t 7), none⟩,
   ⟨some 29, .bin .eql (.t 27) (.t 28), none⟩,
   ⟨some 30, .mov (.t 29), none⟩,
   ⟨some 31, .mov (.t 5), some (30, true)⟩,
   ⟨some 32, .mov (.t 8), some (30, true)⟩,
   ⟨some 33, .bin .eql (.t 31) (.t 32), some (30, true)⟩,
   ⟨some 34, .pick (.t 30) (.t 33) (.k (.bool false)), none⟩,
   ⟨some 35, .mov (.t 34), none⟩,
   ⟨some 36, .mov (.t 6), some (35, true)⟩,
   ⟨some 37, .mov (.t 9), some (35, true)⟩,
   ⟨some 38, .bin .eql (.t 36) (.t 37), some (35, true)⟩,
   ⟨some 39, .pick (.t 35) (.t 38) (.k (.bool false)), none⟩,
   ⟨some 40, .mov (.t 39), none⟩,
   ⟨some 41, .load 4 true (.t 3) [], some (40, true)⟩,
   ⟨some 42, .load 4 true (.t 1) [], some (40, true)⟩,
   ⟨some 43, .call 21 [.t 41, .t 42], some (40, true)⟩,
   ⟨some 44, .pick (.t 40) (.t 43) (.k (.bool false)), none⟩,
   ⟨some 45, .mov (.t 44), none⟩,
   ⟨some 46, .call 17 [], some (45, true)⟩,
   ⟨some 47, .pick (.t 45) (.t 46) (.k (.bool false)), none⟩,
   ⟨some 2, .mov (.t 47), none⟩] (some [2]))
 .ret))))))

theorem m3 : fmatch Try.prog Try.f3 1 [.tmp 2] v3 = true := by kernel_rfl

/-- steening/steeninglaw11.KnotsRetie -/
def v4 : VC :=
 (.seq
 (.ops false [
   ⟨some 1, .box 1 4 (.t 0), none⟩,
   ⟨some 2, .mov (.k (.bool false)), none⟩] (some [1]))
 (.seq
 (.seq
 (.ops false [
   ⟨some 12, .load 4 true (.t 1) [], none⟩,
   ⟨some 13, .call 22 [.t 12], none⟩] (some [1, 13]))
 (.cond (.t 13)
  (.seq
  (.ops false [
    ⟨some 14, .call 17 [], none⟩,
    ⟨some 2, .mov (.t 14), none⟩] (some [2]))
  .ret)
  .skip))
 (.seq
 (.ops false [
   ⟨some 15, .load 4 true (.t 1) [], none⟩,
   ⟨some 16, .call 18 [.t 15], none⟩,
   ⟨some 3, .alloc 3 [.int 0, .int 0, .sl 1 [] .full, .sl 2 [] .full], none⟩,
   ⟨none, .store 4 (.t 3) (.t 16) (some 3), none⟩] (some [1, 3]))
 (.seq
 (.ops false [
   ⟨some 18, .load 4 true (.t 3) [], none⟩,
   ⟨some 19, .call 23 [.t 18], none⟩,
   ⟨some 17, .mov (.t 19), none⟩,
   ⟨some 20, .ext (.t 17) 0, none⟩,
   ⟨some 21, .ext (.t 17) 1, none⟩,
   ⟨some 4, .mov (.t 20), none⟩,
   ⟨some 5, .mov (.t 21), none⟩] (some [1, 3, 4, 5]))
 (.seq
 (.ops false [
   ⟨some 23, .load 4 true (.t 1) [], none⟩,
   ⟨some 24, .call 24 [.t 23], none⟩,
   ⟨some 22, .mov (.t 24), none⟩,
   ⟨some 25, .ext (.t 22) 0, none⟩,
   ⟨some 26, .ext (.t 22) 1, none⟩,
   ⟨some 6, .mov (.t 25), none⟩,
   ⟨some 7, .mov (.t 26), none⟩] (some [1, 3, 4, 5, 6, 7]))
 (.seq
 (.ops false [
   ⟨some 28, .load 4 true (.t 3) [], none⟩,
   ⟨some 29, .call 25 [.t 28], none⟩,
   ⟨some 27, .mov (.t 29), none⟩,
   ⟨some 30, .ext (.t 27) 0, none⟩,
   ⟨some 31, .ext (.t 27) 1, none⟩,
   ⟨some 8, .mov (.t 30), none⟩,
   ⟨some 9, .mov (.t 31), none⟩] (some [1, 3, 4, 5, 6, 7, 8, 9]))
 (.seq
 (.ops false [
   ⟨some 33, .load 4 true (.t 1) [], none⟩,
   ⟨some 34, .call 26 [.t 33], none⟩,
   ⟨some 32, .mov (.t 34), none⟩,
   ⟨some 35, .ext (.t 32) 0, none⟩,
   ⟨some 36, .ext (.t 32) 1, none⟩,
   ⟨some 10, .mov (.t 35), none⟩,
   ⟨some 11, .mov (.t 36), none⟩] (some [1, 3, 4, 5, 6, 7, 8, 9, 10, 11]))
 (.seq
 (.ops false [
   ⟨some 37, .mov (.t 4), none⟩,
   ⟨some 38, .mov (.t 6), none⟩,
   ⟨some 39, .bin .eql (.t 37) (.t 38), none⟩,
   ⟨some 40, .mov (.t 39), none⟩,
   ⟨some 41, .mov (.t 5), some (40, true)⟩,
   ⟨some 42, .mov (.t 7), some (40, true)⟩,
   ⟨some 43, .bin .eql (.t 41) (.t 42), some (40, true)⟩,
   ⟨some 44, .pick (.t 40) (.t 43) (.k (.bool false)), none⟩,
   ⟨some 45, .mov (.t 44), none⟩,
   ⟨some 46, .mov (.t 8), some (45, true)⟩,
   ⟨some 47, .mov (.t 10), some (45, true)⟩,
   ⟨some 48, .call 27 [.t 46, .t 47], some (45, true)⟩,
   ⟨some 49, .pick (.t 45) (.t 48) (.k (.bool false)), none⟩,
   ⟨some 50, .mov (.t 49), none⟩,
   ⟨some 51, .mov (.t 9), some (50, true)⟩,
   ⟨some 52, .mov (.t 11), some (50, true)⟩,
   ⟨some 53, .bin .eql (.t 51) (.t 52), some (50, true)⟩,
   ⟨some 54, .pick (.t 50) (.t 53) (.k (.bool false)), none⟩,
   ⟨some 55, .mov (.t 54), none⟩,
   ⟨some 56, .load 4 true (.t 3) [], some (55, true)⟩,
   ⟨some 57, .load 4 true (.t 1) [], some (55, true)⟩,
   ⟨some 58, .call 21 [.t 56, .t 57], some (55, true)⟩,
   ⟨some 59, .pick (.t 55) (.t 58) (.k (.bool false)), none⟩,
   ⟨some 60, .mov (.t 59), none⟩,
   ⟨some 61, .call 17 [], some (60, true)⟩,
   ⟨some 62, .pick (.t 60) (.t 61) (.k (.bool false)), none⟩,
   ⟨some 2, .mov (.t 62), none⟩] (some [2]))
 .ret))))))))

theorem m4 : fmatch Try.prog Try.f4 1 [.tmp 2] v4 = true := by kernel_rfl

/-- steening/steeninglaw11.KnotsClear -/
def v5 : VC :=
 (.seq
 (.ops false [
   ⟨some 3, .box 3 4 (.t 0), none⟩,
   ⟨some 4, .box 4 3 (.t 1), none⟩,
   ⟨some 5, .box 5 2 (.t 2), none⟩,
   ⟨some 6, .mov (.k (.bool false)), none⟩] (some [3, 4, 5]))
 (.seq
 (.seq
 (.ops true [
   ⟨some 21, .load 4 true (.t 3) [], none⟩,
   ⟨some 22, .call 28 [.t 21], none⟩,
   ⟨some 23, .not (.t 22), none⟩,
   ⟨some 24, .mov (.t 23), none⟩,
   ⟨some 25, .fld 1 (.t 3), some (24, false)⟩,
   ⟨some 26, .load 1 false (.t 25) [], some (24, false)⟩,
   ⟨some 27, .bin .gtr (.t 26) (.k (.int 3)), some (24, false)⟩,
   ⟨some 28, .pick (.t 24) (.k (.bool true)) (.t 27), none⟩,
   ⟨some 29, .mov (.t 28), none⟩,
   ⟨some 30, .load 4 true (.t 3) [], some (29, false)⟩,
   ⟨some 31, .fld 1 (.t 4), some (29, false)⟩,
   ⟨some 32, .load 1 false (.t 31) [], some (29, false)⟩,
   ⟨some 33, .call 29 [.t 30, .t 32], some (29, false)⟩,
   ⟨some 34, .not (.t 33), some (29, false)⟩,
   ⟨some 35, .pick (.t 29) (.k (.bool true)) (.t 34), none⟩,
   ⟨some 36, .mov (.t 35), none⟩,
   ⟨some 37, .load 4 true (.t 3) [], some (36, false)⟩,
   ⟨some 38, .fld 2 (.t 4), some (36, false)⟩,
   ⟨some 39, .load 1 false (.t 38) [], some (36, false)⟩,
   ⟨some 40, .call 30 [.t 37, .t 39], some (36, false)⟩,
   ⟨some 41, .not (.t 40), some (36, false)⟩,
   ⟨some 42, .pick (.t 36) (.k (.bool true)) (.t 41), none⟩,
   ⟨some 43, .mov (.t 42), none⟩,
   ⟨some 44, .fld 0 (.t 5), some (43, false)⟩,
   ⟨some 45, .load 1 false (.t 44) [], some (43, false)⟩,
   ⟨some 46, .fld 1 (.t 5), some (43, false)⟩,
   ⟨some 47, .load 1 false (.t 46) [], some (43, false)⟩,
   ⟨some 48, .bin .gtr (.t 45) (.t 47), some (43, false)⟩,
   ⟨some 49, .pick (.t 43) (.k (.bool true)) (.t 48), none⟩,
   ⟨some 50, .mov (.t 49), none⟩,
   ⟨some 51, .load 2 true (.t 5) [], some (50, false)⟩,
   ⟨some 52, .load 4 true (.t 3) [], some (50, false)⟩,
   ⟨some 53, .fld 1 (.t 4), some (50, false)⟩,
   ⟨some 54, .load 1 false (.t 53) [], some (50, false)⟩,
   ⟨some 55, .call 32 [.t 52, .t 54], some (50, false)⟩,
   ⟨some 56, .fld 2 (.t 4), some (50, false)⟩,
   ⟨some 57, .load 1 false (.t 56) [], some (50, false)⟩,
   ⟨some 58, .idx 2 (.t 55) (.t 57), some (50, false)⟩,
   ⟨some 59, .load 2 true (.t 58) [], some (50, false)⟩,
   ⟨some 60, .call 31 [.t 51, .t 59], some (50, false)⟩,
   ⟨some 61, .not (.t 60), some (50, false)⟩,
   ⟨some 62, .pick (.t 50) (.k (.bool true)) (.t 61), none⟩] (some [3, 4, 5, 62]))
 (.cond (.t 62)
  (.seq
  (.ops false [
    ⟨some 63, .call 17 [], none⟩,
    ⟨some 6, .mov (.t 63), none⟩] (some [6]))
  .ret)
  .skip))
 (.seq
 (.ops false [
   ⟨some 64, .load 4 true (.t 3) [], none⟩,
   ⟨some 65, .fld 1 (.t 4), none⟩,
   ⟨some 66, .load 1 false (.t 65) [], none⟩,
   ⟨some 67, .fld 2 (.t 4), none⟩,
   ⟨some 68, .load 1 false (.t 67) [], none⟩,
   ⟨some 69, .load 2 true (.t 5) [], none⟩,
   ⟨some 70, .call 33 [.t 64, .t 66, .t 68, .t 69], none⟩,
   ⟨some 7, .alloc 7 [.int 0, .int 0, .sl 1 [] .full, .sl 2 [] .full], none⟩,
   ⟨none, .store 4 (.t 7) (.t 70) (some 7), none⟩] (some [3, 7]))
 (.seq
 (.ops false [
   ⟨some 72, .load 4 true (.t 3) [], none⟩,
   ⟨some 73, .call 34 [.t 72], none⟩,
   ⟨some 71, .mov (.t 73), none⟩,
   ⟨some 74, .ext (.t 71) 0, none⟩,
   ⟨some 75, .ext (.t 71) 1, none⟩,
   ⟨some 8, .mov (.t 74), none⟩,
   ⟨some 9, .mov (.t 75), none⟩] (some [3, 7, 8, 9]))
 (.seq
 (.ops false [
   ⟨some 77, .load 4 true (.t 7) [], none⟩,
   ⟨some 78, .call 34 [.t 77], none⟩,
   ⟨some 76, .mov (.t 78), none⟩,
   ⟨some 79, .ext (.t 76) 0, none⟩,
   ⟨some 80, .ext (.t 76) 1, none⟩,
   ⟨some 10, .mov (.t 79), none⟩,
   ⟨some 11, .mov (.t 80), none⟩] (some [3, 7, 8, 9, 10, 11]))
 (.seq
 (.ops false [
   ⟨some 82, .load 4 true (.t 3) [], none⟩,
   ⟨some 83, .call 23 [.t 82], none⟩,
   ⟨some 81, .mov (.t 83), none⟩,
   ⟨some 84, .ext (.t 81) 0, none⟩,
   ⟨some 85, .ext (.t 81) 1, none⟩,
   ⟨some 12, .mov (.t 84), none⟩,
   ⟨some 13, .mov (.t 85), none⟩] (some [3, 7, 8, 9, 10, 11, 12, 13]))
 (.seq
 (.ops false [
   ⟨some 87, .load 4 true (.t 7) [], none⟩,
   ⟨some 88, .call 23 [.t 87], none⟩,
   ⟨some 86, .mov (.t 88), none⟩,
   ⟨some 89, .ext (.t 86) 0, none⟩,
   ⟨some 90, .ext (.t 86) 1, none⟩,
   ⟨some 14, .mov (.t 89), none⟩,
   ⟨some 15, .mov (.t 90), none⟩] (some [3, 7, 8, 9, 10, 11, 12, 13, 14, 15]))
 (.seq
 (.seq
 (.ops false [
   ⟨some 91, .mov (.t 9), none⟩,
   ⟨some 92, .bin .neq (.t 91) (.k (.int 0)), none⟩,
   ⟨some 93, .mov (.t 92), none⟩,
   ⟨some 94, .mov (.t 11), some (93, false)⟩,
   ⟨some 95, .bin .neq (.t 94) (.k (.int 0)), some (93, false)⟩,
   ⟨some 96, .pick (.t 93) (.k (.bool true)) (.t 95), none⟩,
   ⟨some 97, .mov (.t 96), none⟩,
   ⟨some 98, .mov (.t 13), some (97, false)⟩,
   ⟨some 99, .bin .neq (.t 98) (.k (.int 0)), some (97, false)⟩,
   ⟨some 100, .pick (.t 97) (.k (.bool true)) (.t 99), none⟩,
   ⟨some 101, .mov (.t 100), none⟩,
   ⟨some 102, .mov (.t 15), some (101, false)⟩,
   ⟨some 103, .bin .neq (.t 102) (.k (.int 0)), some (101, false)⟩,
   ⟨some 104, .pick (.t 101) (.k (.bool true)) (.t 103), none⟩,
   ⟨some 105, .mov (.t 104), none⟩,
   ⟨some 106, .mov (.t 10), some (105, false)⟩,
   ⟨some 107, .bin .lss (.t 106) (.k (.int 0)), some (105, false)⟩,
   ⟨some 108, .pick (.t 105) (.k (.bool true)) (.t 107), none⟩,
   ⟨some 109, .mov (.t 108), none⟩,
   ⟨some 110, .mov (.t 10), some (109, false)⟩,
   ⟨some 111, .mov (.t 8), some (109, false)⟩,
   ⟨some 112, .bin .gtr (.t 110) (.t 111), some (109, false)⟩,
   ⟨some 113, .pick (.t 109) (.k (.bool true)) (.t 112), none⟩,
   ⟨some 114, .mov (.t 113), none⟩,
   ⟨some 115, .mov (.t 12), some (114, false)⟩,
   ⟨some 116, .bin .lss (.t 115) (.k (.int 0)), some (114, false)⟩,
   ⟨some 117, .pick (.t 114) (.k (.bool true)) (.t 116), none⟩,
   ⟨some 118, .mov (.t 117), none⟩,
   ⟨some 119, .mov (.t 14), some (118, false)⟩,
   ⟨some 120, .mov (.t 12), some (118, false)⟩,
   ⟨some 121, .bin .lss (.t 119) (.t 120), some (118, false)⟩,
   ⟨some 122, .pick (.t 118) (.k (.bool true)) (.t 121), none⟩] (some [3, 7, 10, 122]))
 (.cond (.t 122)
  (.seq
  (.ops false [
    ⟨some 6, .mov (.k (.bool false)), none⟩] (some [6]))
  .ret)
  .skip))
 (.seq
 (.seq
 (.ops false [
   ⟨some 16, .mov (.k (.int 0)), none⟩] (some [3, 7, 10, 16]))
 (.block 0
  (.loop
   (.seq
   (.seq
   (.ops false [
     ⟨some 123, .mov (.t 16), none⟩,
     ⟨some 124, .fld 2 (.t 3), none⟩,
     ⟨some 125, .load 1 false (.t 124) [], none⟩,
     ⟨some 126, .len (.t 125), none⟩,
     ⟨some 127, .bin .leq (.t 123) (.t 126), none⟩,
     ⟨some 128, .mov (.t 127), none⟩,
     ⟨some 129, .mov (.t 10), some (128, true)⟩,
     ⟨some 130, .bin .gtr (.t 129) (.k (.int 0)), some (128, true)⟩,
     ⟨some 131, .pick (.t 128) (.t 130) (.k (.bool false)), none⟩] (some [3, 7, 10, 16, 131]))
   (.cond (.t 131)
    .skip
    (.exit 0)))
   (.seq
   (.block 1
    (.seq
    (.ops false [
      ⟨some 135, .load 4 true (.t 3) [], none⟩,
      ⟨some 136, .mov (.t 16), none⟩,
      ⟨some 137, .call 35 [.t 135, .t 136], none⟩,
      ⟨some 134, .mov (.t 137), none⟩,
      ⟨some 138, .ext (.t 134) 0, none⟩,
      ⟨some 139, .ext (.t 134) 1, none⟩,
      ⟨some 17, .alloc 17 [.int 0, .int 0], none⟩,
      ⟨none, .store 2 (.t 17) (.t 138) (some 17), none⟩,
      ⟨some 18, .mov (.t 139), none⟩] (some [3, 7, 10, 16, 17, 18]))
    (.seq
    (.ops false [
      ⟨some 141, .load 4 true (.t 7) [], none⟩,
      ⟨some 142, .mov (.t 16), none⟩,
      ⟨some 143, .call 35 [.t 141, .t 142], none⟩,
      ⟨some 140, .mov (.t 143), none⟩,
      ⟨some 144, .ext (.t 140) 0, none⟩,
      ⟨some 145, .ext (.t 140) 1, none⟩,
      ⟨some 19, .alloc 19 [.int 0, .int 0], none⟩,
      ⟨none, .store 2 (.t 19) (.t 144) (some 19), none⟩,
      ⟨some 20, .mov (.t 145), none⟩] (some [3, 7, 10, 16, 17, 18, 19, 20]))
    (.seq
    (.ops false [
      ⟨some 146, .mov (.t 18), none⟩,
      ⟨some 147, .bin .neq (.t 146) (.k (.int 0)), none⟩,
      ⟨some 148, .mov (.t 147), none⟩,
      ⟨some 149, .mov (.t 20), some (148, false)⟩,
      ⟨some 150, .bin .neq (.t 149) (.k (.int 0)), some (148, false)⟩,
      ⟨some 151, .pick (.t 148) (.k (.bool true)) (.t 150), none⟩,
      ⟨some 152, .mov (.t 151), none⟩,
      ⟨some 153, .load 2 true (.t 19) [], some (152, false)⟩,
      ⟨some 154, .load 2 true (.t 17) [], some (152, false)⟩,
      ⟨some 155, .call 31 [.t 153, .t 154], some (152, false)⟩,
      ⟨some 156, .not (.t 155), some (152, false)⟩,
      ⟨some 157, .pick (.t 152) (.k (.bool true)) (.t 156), none⟩] (some [3, 7, 10, 16, 157]))
    (.cond (.t 157)
     (.seq
     (.ops false [
       ⟨some 6, .mov (.k (.bool false)), none⟩] (some [6]))
     .ret)
     .skip)))))
   (.ops false [
     ⟨some 132, .mov (.t 16), none⟩,
     ⟨some 133, .bin .add (.t 132) (.k (.int 1)), none⟩,
     ⟨some 16, .mov (.t 133), none⟩] (some [3, 7, 10, 16])))))))
 (.seq
 (.ops false [
   ⟨some 158, .call 17 [], none⟩,
   ⟨some 6, .mov (.t 158), none⟩] (some [6]))
 .ret))))))))))

theorem m5 : fmatch Try.prog Try.f5 3 [.tmp 6] v5 = true := by kernel_rfl

/-- steening/steeninglaw11.KnotsRetied -/
def v6 : VC :=
 (.seq
 (.ops false [
   ⟨some 2, .box 2 4 (.t 0), none⟩,
   ⟨some 3, .box 3 3 (.t 1), none⟩,
   ⟨some 4, .mov (.k (.bool false)), none⟩] (some [2, 3]))
 (.seq
 (.seq
 (.ops false [
   ⟨some 18, .load 4 true (.t 2) [], none⟩,
   ⟨some 19, .call 28 [.t 18], none⟩,
   ⟨some 20, .not (.t 19), none⟩,
   ⟨some 21, .mov (.t 20), none⟩,
   ⟨some 22, .fld 1 (.t 2), some (21, false)⟩,
   ⟨some 23, .load 1 false (.t 22) [], some (21, false)⟩,
   ⟨some 24, .bin .gtr (.t 23) (.k (.int 3)), some (21, false)⟩,
   ⟨some 25, .pick (.t 21) (.k (.bool true)) (.t 24), none⟩,
   ⟨some 26, .mov (.t 25), none⟩,
   ⟨some 27, .load 4 true (.t 2) [], some (26, false)⟩,
   ⟨some 28, .fld 1 (.t 3), some (26, false)⟩,
   ⟨some 29, .load 1 false (.t 28) [], some (26, false)⟩,
   ⟨some 30, .call 29 [.t 27, .t 29], some (26, false)⟩,
   ⟨some 31, .not (.t 30), some (26, false)⟩,
   ⟨some 32, .pick (.t 26) (.k (.bool true)) (.t 31), none⟩,
   ⟨some 33, .mov (.t 32), none⟩,
   ⟨some 34, .load 4 true (.t 2) [], some (33, false)⟩,
   ⟨some 35, .fld 2 (.t 3), some (33, false)⟩,
   ⟨some 36, .load 1 false (.t 35) [], some (33, false)⟩,
   ⟨some 37, .call 30 [.t 34, .t 36], some (33, false)⟩,
   ⟨some 38, .not (.t 37), some (33, false)⟩,
   ⟨some 39, .pick (.t 33) (.k (.bool true)) (.t 38), none⟩] (some [2, 3, 39]))
 (.cond (.t 39)
  (.seq
  (.ops false [
    ⟨some 40, .call 17 [], none⟩,
    ⟨some 4, .mov (.t 40), none⟩] (some [4]))
  .ret)
  .skip))
 (.seq
 (.ops false [
   ⟨some 42, .load 4 true (.t 2) [], none⟩,
   ⟨some 43, .call 23 [.t 42], none⟩,
   ⟨some 41, .mov (.t 43), none⟩,
   ⟨some 44, .ext (.t 41) 0, none⟩,
   ⟨some 45, .ext (.t 41) 1, none⟩,
   ⟨some 5, .mov (.t 44), none⟩,
   ⟨some 6, .mov (.t 45), none⟩] (some [2, 3, 5, 6]))
 (.seq
 (.ops false [
   ⟨some 47, .load 4 true (.t 2) [], none⟩,
   ⟨some 48, .call 34 [.t 47], none⟩,
   ⟨some 46, .mov (.t 48), none⟩,
   ⟨some 49, .ext (.t 46) 0, none⟩,
   ⟨some 50, .ext (.t 46) 1, none⟩,
   ⟨some 7, .mov (.t 49), none⟩,
   ⟨some 8, .mov (.t 50), none⟩] (some [2, 3, 5, 6, 7, 8]))
 (.seq
 (.ops false [
   ⟨some 52, .load 4 true (.t 2) [], none⟩,
   ⟨some 53, .call 25 [.t 52], none⟩,
   ⟨some 51, .mov (.t 53), none⟩,
   ⟨some 54, .ext (.t 51) 0, none⟩,
   ⟨some 55, .ext (.t 51) 1, none⟩,
   ⟨some 9, .mov (.t 54), none⟩,
   ⟨some 10, .mov (.t 55), none⟩] (some [2, 3, 5, 6, 7, 8, 9, 10]))
 (.seq
 (.seq
 (.ops false [
   ⟨some 56, .mov (.t 6), none⟩,
   ⟨some 57, .bin .neq (.t 56) (.k (.int 0)), none⟩,
   ⟨some 58, .mov (.t 57), none⟩,
   ⟨some 59, .mov (.t 8), some (58, false)⟩,
   ⟨some 60, .bin .neq (.t 59) (.k (.int 0)), some (58, false)⟩,
   ⟨some 61, .pick (.t 58) (.k (.bool true)) (.t 60), none⟩,
   ⟨some 62, .mov (.t 61), none⟩,
   ⟨some 63, .mov (.t 10), some (62, false)⟩,
   ⟨some 64, .call 36 [.t 63], some (62, false)⟩,
   ⟨some 65, .not (.t 64), some (62, false)⟩,
   ⟨some 66, .pick (.t 62) (.k (.bool true)) (.t 65), none⟩,
   ⟨some 67, .mov (.t 66), none⟩,
   ⟨some 68, .mov (.t 5), some (67, false)⟩,
   ⟨some 69, .bin .lss (.t 68) (.k (.int 0)), some (67, false)⟩,
   ⟨some 70, .pick (.t 67) (.k (.bool true)) (.t 69), none⟩,
   ⟨some 71, .mov (.t 70), none⟩,
   ⟨some 72, .mov (.t 5), some (71, false)⟩,
   ⟨some 73, .bin .eql (.t 72) (.k (.int 0)), some (71, false)⟩,
   ⟨some 74, .mov (.t 7), some (71, false)⟩,
   ⟨some 75, .bin .gtr (.t 74) (.k (.int 0)), some (71, false)⟩,
   ⟨some 76, .bin .bne (.t 73) (.t 75), some (71, false)⟩,
   ⟨some 77, .pick (.t 71) (.k (.bool true)) (.t 76), none⟩,
   ⟨some 78, .mov (.t 77), none⟩,
   ⟨some 79, .mov (.t 10), some (78, false)⟩,
   ⟨some 80, .bin .eql (.t 79) (.k (.int 0)), some (78, false)⟩,
   ⟨some 81, .mov (.t 5), some (78, false)⟩,
   ⟨some 82, .bin .gtr (.t 81) (.k (.int 0)), some (78, false)⟩,
   ⟨some 83, .bin .bne (.t 80) (.t 82), some (78, false)⟩,
   ⟨some 84, .pick (.t 78) (.k (.bool true)) (.t 83), none⟩,
   ⟨some 85, .mov (.t 84), none⟩,
   ⟨some 86, .mov (.t 10), some (85, false)⟩,
   ⟨some 87, .bin .eql (.t 86) (.k (.int 0)), some (85, false)⟩,
   ⟨some 88, .mov (.t 9), some (85, false)⟩,
   ⟨some 89, .len (.t 88), some (85, false)⟩,
   ⟨some 90, .bin .gtr (.t 89) (.k (.int 0)), some (85, false)⟩,
   ⟨some 91, .bin .bne (.t 87) (.t 90), some (85, false)⟩,
   ⟨some 92, .pick (.t 85) (.k (.bool true)) (.t 91), none⟩,
   ⟨some 93, .mov (.t 92), none⟩,
   ⟨some 94, .mov (.t 9), some (93, false)⟩,
   ⟨some 95, .len (.t 94), some (93, false)⟩,
   ⟨some 96, .fld 2 (.t 2), some (93, false)⟩,
   ⟨some 97, .load 1 false (.t 96) [], some (93, false)⟩,
   ⟨some 98, .len (.t 97), some (93, false)⟩,
   ⟨some 99, .bin .add (.t 98) (.k (.int 1)), some (93, false)⟩,
   ⟨some 100, .bin .gtr (.t 95) (.t 99), some (93, false)⟩,
   ⟨some 101, .pick (.t 93) (.k (.bool true)) (.t 100), none⟩,
   ⟨some 102, .mov (.t 101), none⟩,
   ⟨some 103, .mov (.t 9), some (102, false)⟩,
   ⟨some 104, .fld 2 (.t 2), some (102, false)⟩,
   ⟨some 105, .load 1 false (.t 104) [], some (102, false)⟩,
   ⟨some 106, .len (.t 105), some (102, false)⟩,
   ⟨some 107, .call 37 [.t 103, .k (.int 0), .t 106], some (102, false)⟩,
   ⟨some 108, .not (.t 107), some (102, false)⟩,
   ⟨some 109, .pick (.t 102) (.k (.bool true)) (.t 108), none⟩] (some [2, 3, 5, 109]))
 (.cond (.t 109)
  (.seq
  (.ops false [
    ⟨some 4, .mov (.k (.bool false)), none⟩] (some [4]))
  .ret)
  .skip))
 (.seq
 (.ops true [
   ⟨some 110, .load 4 true (.t 2) [11], none⟩,
   ⟨some 111, .fld 1 (.t 3), none⟩,
   ⟨some 112, .load 1 false (.t 111) [11], none⟩,
   ⟨some 113, .call 32 [.t 110, .t 112], none⟩,
   ⟨some 114, .fld 2 (.t 3), none⟩,
   ⟨some 115, .load 1 false (.t 114) [11], none⟩,
   ⟨some 116, .idx 2 (.t 113) (.t 115), none⟩,
   ⟨some 117, .load 2 true (.t 116) [11], none⟩,
   ⟨some 11, .alloc 11 [.int 0, .int 0], none⟩,
   ⟨none, .store 2 (.t 11) (.t 117) (some 11), none⟩] (some [2, 3, 5, 11]))
 (.seq
 (.ops true [
   ⟨some 118, .load 4 true (.t 2) [12, 13], none⟩,
   ⟨some 119, .fld 1 (.t 3), none⟩,
   ⟨some 120, .load 1 false (.t 119) [12, 13], none⟩,
   ⟨some 121, .fld 2 (.t 3), none⟩,
   ⟨some 122, .load 1 false (.t 121) [12, 13], none⟩,
   ⟨some 123, .fld 0 (.t 11), none⟩,
   ⟨some 124, .load 1 false (.t 123) [12, 13], none⟩,
   ⟨some 125, .bin .sub (.t 124) (.k (.int 1)), none⟩,
   ⟨some 126, .fld 1 (.t 11), none⟩,
   ⟨some 127, .load 1 false (.t 126) [12, 13], none⟩,
   ⟨some 128, .build [.int 0, .int 0] [(0, 1, .t 125), (1, 1, .t 127)], none⟩,
   ⟨some 129, .call 33 [.t 118, .t 120, .t 122, .t 128], none⟩,
   ⟨some 130, .load 4 true (.t 2) [12, 13], none⟩,
   ⟨some 131, .fld 1 (.t 3), none⟩,
   ⟨some 132, .load 1 false (.t 131) [12, 13], none⟩,
   ⟨some 133, .fld 2 (.t 3), none⟩,
   ⟨some 134, .load 1 false (.t 133) [12, 13], none⟩,
   ⟨some 135, .fld 0 (.t 11), none⟩,
   ⟨some 136, .load 1 false (.t 135) [12, 13], none⟩,
   ⟨some 137, .fld 1 (.t 11), none⟩,
   ⟨some 138, .load 1 false (.t 137) [12, 13], none⟩,
   ⟨some 139, .bin .add (.t 138) (.k (.int 1)), none⟩,
   ⟨some 140, .build [.int 0, .int 0] [(0, 1, .t 136), (1, 1, .t 139)], none⟩,
   ⟨some 141, .call 33 [.t 130, .t 132, .t 134, .t 140], none⟩,
   ⟨some 12, .alloc 12 [.int 0, .int 0, .sl 1 [] .full, .sl 2 [] .full], none⟩,
   ⟨some 13, .alloc 13 [.int 0, .int 0, .sl 1 [] .full, .sl 2 [] .full], none⟩,
   ⟨none, .store 4 (.t 12) (.t 129) (some 12), none⟩,
   ⟨none, .store 4 (.t 13) (.t 141) (some 13), none⟩] (some [5, 12, 13]))
 (.seq
 (.seq
 (.ops false [
   ⟨some 142, .load 4 true (.t 12) [], none⟩,
   ⟨some 143, .call 28 [.t 142], none⟩] (some [5, 12, 13, 143]))
 (.cond (.t 143)
  (.seq
  (.ops false [
    ⟨some 145, .load 4 true (.t 12) [], none⟩,
    ⟨some 146, .call 23 [.t 145], none⟩,
    ⟨some 144, .mov (.t 146), none⟩,
    ⟨some 147, .ext (.t 144) 0, none⟩,
    ⟨some 148, .ext (.t 144) 1, none⟩,
    ⟨some 14, .mov (.t 147), none⟩,
    ⟨some 15, .mov (.t 148), none⟩] (some [5, 13, 14, 15]))
  (.seq
  (.ops false [
    ⟨some 149, .mov (.t 15), none⟩,
    ⟨some 150, .bin .neq (.t 149) (.k (.int 0)), none⟩,
    ⟨some 151, .mov (.t 150), none⟩,
    ⟨some 152, .mov (.t 14), some (151, false)⟩,
    ⟨some 153, .mov (.t 5), some (151, false)⟩,
    ⟨some 154, .bin .gtr (.t 152) (.t 153), some (151, false)⟩,
    ⟨some 155, .pick (.t 151) (.k (.bool true)) (.t 154), none⟩,
    ⟨some 156, .mov (.t 155), none⟩,
    ⟨some 157, .mov (.t 14), some (156, false)⟩,
    ⟨some 158, .mov (.t 5), some (156, false)⟩,
    ⟨some 159, .bin .sub (.t 158) (.k (.int 1)), some (156, false)⟩,
    ⟨some 160, .bin .lss (.t 157) (.t 159), some (156, false)⟩,
    ⟨some 161, .pick (.t 156) (.k (.bool true)) (.t 160), none⟩] (some [5, 13, 161]))
  (.cond (.t 161)
   (.seq
   (.ops false [
     ⟨some 4, .mov (.k (.bool false)), none⟩] (some [4]))
   .ret)
   .skip)))
  .skip))
 (.seq
 (.seq
 (.ops false [
   ⟨some 162, .load 4 true (.t 13) [], none⟩,
   ⟨some 163, .call 28 [.t 162], none⟩] (some [5, 13, 163]))
 (.cond (.t 163)
  (.seq
  (.ops false [
    ⟨some 165, .load 4 true (.t 13) [], none⟩,
    ⟨some 166, .call 23 [.t 165], none⟩,
    ⟨some 164, .mov (.t 166), none⟩,
    ⟨some 167, .ext (.t 164) 0, none⟩,
    ⟨some 168, .ext (.t 164) 1, none⟩,
    ⟨some 16, .mov (.t 167), none⟩,
    ⟨some 17, .mov (.t 168), none⟩] (some [5, 16, 17]))
  (.seq
  (.ops false [
    ⟨some 169, .mov (.t 17), none⟩,
    ⟨some 170, .bin .neq (.t 169) (.k (.int 0)), none⟩,
    ⟨some 171, .mov (.t 170), none⟩,
    ⟨some 172, .mov (.t 16), some (171, false)⟩,
    ⟨some 173, .mov (.t 5), some (171, false)⟩,
    ⟨some 174, .bin .gtr (.t 172) (.t 173), some (171, false)⟩,
    ⟨some 175, .pick (.t 171) (.k (.bool true)) (.t 174), none⟩,
    ⟨some 176, .mov (.t 175), none⟩,
    ⟨some 177, .mov (.t 16), some (176, false)⟩,
    ⟨some 178, .mov (.t 5), some (176, false)⟩,
    ⟨some 179, .bin .sub (.t 178) (.k (.int 1)), some (176, false)⟩,
    ⟨some 180, .bin .lss (.t 177) (.t 179), some (176, false)⟩,
    ⟨some 181, .pick (.t 176) (.k (.bool true)) (.t 180), none⟩] (some [181]))
  (.cond (.t 181)
   (.seq
   (.ops false [
     ⟨some 4, .mov (.k (.bool false)), none⟩] (some [4]))
   .ret)
   .skip)))
  .skip))
 (.seq
 (.ops false [
   ⟨some 182, .call 17 [], none⟩,
   ⟨some 4, .mov (.t 182), none⟩] (some [4]))
 .ret)))))))))))

theorem m6 : fmatch Try.prog Try.f6 2 [.tmp 4] v6 = true := by kernel_rfl

/-- steening/steeninglaw11.KnotsCount -/
def v7 : VC :=
 (.seq
 (.ops false [
   ⟨some 2, .box 2 4 (.t 0), none⟩,
   ⟨some 3, .box 3 3 (.t 1), none⟩,
   ⟨some 4, .mov (.k (.bool false)), none⟩] (some [2, 3]))
 (.seq
 (.seq
 (.ops false [
   ⟨some 14, .load 4 true (.t 2) [], none⟩,
   ⟨some 15, .call 28 [.t 14], none⟩,
   ⟨some 16, .not (.t 15), none⟩,
   ⟨some 17, .mov (.t 16), none⟩,
   ⟨some 18, .fld 1 (.t 2), some (17, false)⟩,
   ⟨some 19, .load 1 false (.t 18) [], some (17, false)⟩,
   ⟨some 20, .bin .gtr (.t 19) (.k (.int 3)), some (17, false)⟩,
   ⟨some 21, .pick (.t 17) (.k (.bool true)) (.t 20), none⟩,
   ⟨some 22, .mov (.t 21), none⟩,
   ⟨some 23, .fld 2 (.t 2), some (22, false)⟩,
   ⟨some 24, .load 1 false (.t 23) [], some (22, false)⟩,
   ⟨some 25, .len (.t 24), some (22, false)⟩,
   ⟨some 26, .bin .gtr (.t 25) (.k (.int 3)), some (22, false)⟩,
   ⟨some 27, .pick (.t 22) (.k (.bool true)) (.t 26), none⟩,
   ⟨some 28, .mov (.t 27), none⟩,
   ⟨some 29, .load 4 true (.t 2) [], some (28, false)⟩,
   ⟨some 30, .fld 1 (.t 3), some (28, false)⟩,
   ⟨some 31, .load 1 false (.t 30) [], some (28, false)⟩,
   ⟨some 32, .call 29 [.t 29, .t 31], some (28, false)⟩,
   ⟨some 33, .not (.t 32), some (28, false)⟩,
   ⟨some 34, .pick (.t 28) (.k (.bool true)) (.t 33), none⟩,
   ⟨some 35, .mov (.t 34), none⟩,
   ⟨some 36, .load 4 true (.t 2) [], some (35, false)⟩,
   ⟨some 37, .fld 2 (.t 3), some (35, false)⟩,
   ⟨some 38, .load 1 false (.t 37) [], some (35, false)⟩,
   ⟨some 39, .call 30 [.t 36, .t 38], some (35, false)⟩,
   ⟨some 40, .not (.t 39), some (35, false)⟩,
   ⟨some 41, .pick (.t 35) (.k (.bool true)) (.t 40), none⟩] (some [2, 3, 41]))
 (.cond (.t 41)
  (.seq
  (.ops false [
    ⟨some 42, .call 17 [], none⟩,
    ⟨some 4, .mov (.t 42), none⟩] (some [4]))
  .ret)
  .skip))
 (.seq
 (.ops false [
   ⟨some 44, .load 4 true (.t 2) [], none⟩,
   ⟨some 45, .call 19 [.t 44], none⟩,
   ⟨some 43, .mov (.t 45), none⟩,
   ⟨some 46, .ext (.t 43) 0, none⟩,
   ⟨some 47, .ext (.t 43) 1, none⟩,
   ⟨some 48, .ext (.t 43) 2, none⟩,
   ⟨some 5, .mov (.t 46), none⟩,
   ⟨some 6, .mov (.t 47), none⟩,
   ⟨some 7, .mov (.t 48), none⟩] (some [2, 3, 5, 6, 7]))
 (.seq
 (.ops false [
   ⟨some 50, .load 4 true (.t 2) [], none⟩,
   ⟨some 51, .call 34 [.t 50], none⟩,
   ⟨some 49, .mov (.t 51), none⟩,
   ⟨some 52, .ext (.t 49) 0, none⟩,
   ⟨some 53, .ext (.t 49) 1, none⟩,
   ⟨some 8, .mov (.t 52), none⟩,
   ⟨some 9, .mov (.t 53), none⟩] (some [2, 3, 5, 6, 7, 8, 9]))
 (.seq
 (.seq
 (.ops false [
   ⟨some 54, .mov (.t 9), none⟩,
   ⟨some 55, .bin .neq (.t 54) (.k (.int 0)), none⟩,
   ⟨some 56, .mov (.t 55), none⟩,
   ⟨some 57, .mov (.t 7), some (56, false)⟩,
   ⟨some 58, .call 36 [.t 57], some (56, false)⟩,
   ⟨some 59, .not (.t 58), some (56, false)⟩,
   ⟨some 60, .pick (.t 56) (.k (.bool true)) (.t 59), none⟩,
   ⟨some 61, .mov (.t 60), none⟩,
   ⟨some 62, .mov (.t 7), some (61, false)⟩,
   ⟨some 63, .bin .eql (.t 62) (.k (.int 0)), some (61, false)⟩,
   ⟨some 64, .mov (.t 8), some (61, false)⟩,
   ⟨some 65, .bin .gtr (.t 64) (.k (.int 1)), some (61, false)⟩,
   ⟨some 66, .bin .bne (.t 63) (.t 65), some (61, false)⟩,
   ⟨some 67, .pick (.t 61) (.k (.bool true)) (.t 66), none⟩] (some [2, 3, 5, 6, 7, 8, 67]))
 (.cond (.t 67)
  (.seq
  (.ops false [
    ⟨some 4, .mov (.k (.bool false)), none⟩] (some [4]))
  .ret)
  .skip))
 (.seq
 (.seq
 (.ops false [
   ⟨some 68, .mov (.t 7), none⟩,
   ⟨some 69, .bin .neq (.t 68) (.k (.int 0)), none⟩] (some [2, 3, 5, 6, 8, 69]))
 (.cond (.t 69)
  (.seq
  (.ops false [
    ⟨some 70, .call 17 [], none⟩,
    ⟨some 4, .mov (.t 70), none⟩] (some [4]))
  .ret)
  .skip))
 (.seq
 (.seq
 (.ops false [
   ⟨some 71, .load 4 true (.t 2) [], none⟩,
   ⟨some 72, .mov (.t 5), none⟩,
   ⟨some 73, .call 29 [.t 71, .t 72], none⟩,
   ⟨some 74, .not (.t 73), none⟩,
   ⟨some 75, .mov (.t 74), none⟩,
   ⟨some 76, .load 4 true (.t 2) [], some (75, false)⟩,
   ⟨some 77, .mov (.t 6), some (75, false)⟩,
   ⟨some 78, .call 30 [.t 76, .t 77], some (75, false)⟩,
   ⟨some 79, .not (.t 78), some (75, false)⟩,
   ⟨some 80, .pick (.t 75) (.k (.bool true)) (.t 79), none⟩] (some [2, 3, 5, 6, 8, 80]))
 (.cond (.t 80)
  (.seq
  (.ops false [
    ⟨some 4, .mov (.k (.bool false)), none⟩] (some [4]))
  .ret)
  .skip))
 (.seq
 (.ops false [
   ⟨some 82, .load 4 true (.t 2) [], none⟩,
   ⟨some 83, .mov (.t 5), none⟩,
   ⟨some 84, .mov (.t 6), none⟩,
   ⟨some 85, .call 38 [.t 82, .t 83, .t 84], none⟩,
   ⟨some 81, .mov (.t 85), none⟩,
   ⟨some 86, .ext (.t 81) 0, none⟩,
   ⟨some 87, .ext (.t 81) 1, none⟩,
   ⟨some 10, .mov (.t 86), none⟩,
   ⟨some 11, .mov (.t 87), none⟩] (some [2, 3, 5, 6, 8, 10, 11]))
 (.seq
 (.ops false [
   ⟨some 89, .load 4 true (.t 2) [], none⟩,
   ⟨some 90, .fld 1 (.t 3), none⟩,
   ⟨some 91, .load 1 false (.t 90) [], none⟩,
   ⟨some 92, .fld 2 (.t 3), none⟩,
   ⟨some 93, .load 1 false (.t 92) [], none⟩,
   ⟨some 94, .call 38 [.t 89, .t 91, .t 93], none⟩,
   ⟨some 88, .mov (.t 94), none⟩,
   ⟨some 95, .ext (.t 88) 0, none⟩,
   ⟨some 96, .ext (.t 88) 1, none⟩,
   ⟨some 12, .mov (.t 95), none⟩,
   ⟨some 13, .mov (.t 96), none⟩] (some [3, 5, 6, 8, 10, 11, 12, 13]))
 (.seq
 (.seq
 (.ops false [
   ⟨some 97, .mov (.t 11), none⟩,
   ⟨some 98, .not (.t 97), none⟩,
   ⟨some 99, .mov (.t 98), none⟩,
   ⟨some 100, .mov (.t 13), some (99, false)⟩,
   ⟨some 101, .not (.t 100), some (99, false)⟩,
   ⟨some 102, .pick (.t 99) (.k (.bool true)) (.t 101), none⟩,
   ⟨some 103, .mov (.t 102), none⟩,
   ⟨some 104, .mov (.t 10), some (103, false)⟩,
   ⟨some 105, .mov (.t 8), some (103, false)⟩,
   ⟨some 106, .bin .geq (.t 104) (.t 105), some (103, false)⟩,
   ⟨some 107, .pick (.t 103) (.k (.bool true)) (.t 106), none⟩,
   ⟨some 108, .mov (.t 107), none⟩,
   ⟨some 109, .mov (.t 10), some (108, false)⟩,
   ⟨some 110, .bin .lss (.t 109) (.k (.int 1)), some (108, false)⟩,
   ⟨some 111, .pick (.t 108) (.k (.bool true)) (.t 110), none⟩,
   ⟨some 112, .mov (.t 111), none⟩,
   ⟨some 113, .mov (.t 10), some (112, false)⟩,
   ⟨some 114, .mov (.t 12), some (112, false)⟩,
   ⟨some 115, .bin .gtr (.t 113) (.t 114), some (112, false)⟩,
   ⟨some 116, .pick (.t 112) (.k (.bool true)) (.t 115), none⟩] (some [3, 5, 6, 10, 12, 116]))
 (.cond (.t 116)
  (.seq
  (.ops false [
    ⟨some 4, .mov (.k (.bool false)), none⟩] (some [4]))
  .ret)
  .skip))
 (.seq
 (.ops false [
   ⟨some 117, .mov (.t 10), none⟩,
   ⟨some 118, .mov (.t 12), none⟩,
   ⟨some 119, .bin .lss (.t 117) (.t 118), none⟩,
   ⟨some 120, .mov (.t 119), none⟩,
   ⟨some 121, .mov (.t 5), some (120, false)⟩,
   ⟨some 122, .fld 1 (.t 3), some (120, false)⟩,
   ⟨some 123, .load 1 false (.t 122) [], some (120, false)⟩,
   ⟨some 124, .bin .lss (.t 121) (.t 123), some (120, false)⟩,
   ⟨some 125, .pick (.t 120) (.k (.bool true)) (.t 124), none⟩,
   ⟨some 126, .mov (.t 125), none⟩,
   ⟨some 127, .mov (.t 5), some (126, false)⟩,
   ⟨some 128, .fld 1 (.t 3), some (126, false)⟩,
   ⟨some 129, .load 1 false (.t 128) [], some (126, false)⟩,
   ⟨some 130, .bin .eql (.t 127) (.t 129), some (126, false)⟩,
   ⟨some 131, .mov (.t 130), some (126, false)⟩,
   ⟨some 132, .mov (.t 6), some (131, true)⟩,
   ⟨some 133, .fld 2 (.t 3), some (131, true)⟩,
   ⟨some 134, .load 1 false (.t 133) [], some (131, true)⟩,
   ⟨some 135, .bin .leq (.t 132) (.t 134), some (131, true)⟩,
   ⟨some 136, .pick (.t 131) (.t 135) (.k (.bool false)), some (126, false)⟩,
   ⟨some 137, .pick (.t 126) (.k (.bool true)) (.t 136), none⟩,
   ⟨some 138, .mov (.t 137), none⟩,
   ⟨some 139, .call 17 [], some (138, true)⟩,
   ⟨some 140, .pick (.t 138) (.t 139) (.k (.bool false)), none⟩,
   ⟨some 4, .mov (.t 140), none⟩] (some [4]))
 .ret)))))))))))

theorem m7 : fmatch Try.prog Try.f7 2 [.tmp 4] v7 = true := by kernel_rfl

/-- steening/steeninglaw11.KnotsDigits -/
def v8 : VC :=
 (.seq
 (.ops false [
   ⟨some 2, .box 2 4 (.t 0), none⟩,
   ⟨some 3, .box 3 3 (.t 1), none⟩,
   ⟨some 4, .mov (.k (.bool false)), none⟩] (some [2, 3]))
 (.seq
 (.seq
 (.ops false [
   ⟨some 14, .load 4 true (.t 2) [], none⟩,
   ⟨some 15, .call 28 [.t 14], none⟩,
   ⟨some 16, .not (.t 15), none⟩,
   ⟨some 17, .mov (.t 16), none⟩,
   ⟨some 18, .fld 1 (.t 2), some (17, false)⟩,
   ⟨some 19, .load 1 false (.t 18) [], some (17, false)⟩,
   ⟨some 20, .bin .gtr (.t 19) (.k (.int 3)), some (17, false)⟩,
   ⟨some 21, .pick (.t 17) (.k (.bool true)) (.t 20), none⟩,
   ⟨some 22, .mov (.t 21), none⟩,
   ⟨some 23, .fld 2 (.t 2), some (22, false)⟩,
   ⟨some 24, .load 1 false (.t 23) [], some (22, false)⟩,
   ⟨some 25, .len (.t 24), some (22, false)⟩,
   ⟨some 26, .bin .gtr (.t 25) (.k (.int 3)), some (22, false)⟩,
   ⟨some 27, .pick (.t 22) (.k (.bool true)) (.t 26), none⟩,
   ⟨some 28, .mov (.t 27), none⟩,
   ⟨some 29, .load 4 true (.t 2) [], some (28, false)⟩,
   ⟨some 30, .fld 1 (.t 3), some (28, false)⟩,
   ⟨some 31, .load 1 false (.t 30) [], some (28, false)⟩,
   ⟨some 32, .call 29 [.t 29, .t 31], some (28, false)⟩,
   ⟨some 33, .not (.t 32), some (28, false)⟩,
   ⟨some 34, .pick (.t 28) (.k (.bool true)) (.t 33), none⟩,
   ⟨some 35, .mov (.t 34), none⟩,
   ⟨some 36, .load 4 true (.t 2) [], some (35, false)⟩,
   ⟨some 37, .fld 2 (.t 3), some (35, false)⟩,
   ⟨some 38, .load 1 false (.t 37) [], some (35, false)⟩,
   ⟨some 39, .call 30 [.t 36, .t 38], some (35, false)⟩,
   ⟨some 40, .not (.t 39), some (35, false)⟩,
   ⟨some 41, .pick (.t 35) (.k (.bool true)) (.t 40), none⟩] (some [2, 3, 41]))
 (.cond (.t 41)
  (.seq
  (.ops false [
    ⟨some 42, .call 17 [], none⟩,
    ⟨some 4, .mov (.t 42), none⟩] (some [4]))
  .ret)
  .skip))
 (.seq
 (.ops false [
   ⟨some 44, .load 4 true (.t 2) [], none⟩,
   ⟨some 45, .call 34 [.t 44], none⟩,
   ⟨some 43, .mov (.t 45), none⟩,
   ⟨some 46, .ext (.t 43) 0, none⟩,
   ⟨some 47, .ext (.t 43) 1, none⟩,
   ⟨some 5, .mov (.t 46), none⟩,
   ⟨some 6, .mov (.t 47), none⟩] (some [2, 3, 5, 6]))
 (.seq
 (.ops false [
   ⟨some 49, .load 4 true (.t 2) [], none⟩,
   ⟨some 50, .fld 1 (.t 3), none⟩,
   ⟨some 51, .load 1 false (.t 50) [], none⟩,
   ⟨some 52, .fld 2 (.t 3), none⟩,
   ⟨some 53, .load 1 false (.t 52) [], none⟩,
   ⟨some 54, .call 39 [.t 49, .t 51, .t 53], none⟩,
   ⟨some 48, .mov (.t 54), none⟩,
   ⟨some 55, .ext (.t 48) 0, none⟩,
   ⟨some 56, .ext (.t 48) 1, none⟩,
   ⟨some 7, .alloc 7 [.int 0, .int 0], none⟩,
   ⟨none, .store 2 (.t 7) (.t 55) (some 7), none⟩,
   ⟨some 8, .mov (.t 56), none⟩] (some [2, 3, 5, 6, 7, 8]))
 (.seq
 (.seq
 (.ops false [
   ⟨some 57, .mov (.t 6), none⟩,
   ⟨some 58, .bin .neq (.t 57) (.k (.int 0)), none⟩,
   ⟨some 59, .mov (.t 58), none⟩,
   ⟨some 60, .mov (.t 8), some (59, false)⟩,
   ⟨some 61, .call 36 [.t 60], some (59, false)⟩,
   ⟨some 62, .not (.t 61), some (59, false)⟩,
   ⟨some 63, .pick (.t 59) (.k (.bool true)) (.t 62), none⟩,
   ⟨some 64, .mov (.t 63), none⟩,
   ⟨some 65, .mov (.t 5), some (64, false)⟩,
   ⟨some 66, .bin .lss (.t 65) (.k (.int 0)), some (64, false)⟩,
   ⟨some 67, .pick (.t 64) (.k (.bool true)) (.t 66), none⟩,
   ⟨some 68, .mov (.t 67), none⟩,
   ⟨some 69, .mov (.t 5), some (68, false)⟩,
   ⟨some 70, .bin .gtr (.t 69) (.k (.int 0)), some (68, false)⟩,
   ⟨some 71, .mov (.t 8), some (68, false)⟩,
   ⟨some 72, .bin .eql (.t 71) (.k (.int 0)), some (68, false)⟩,
   ⟨some 73, .bin .bne (.t 70) (.t 72), some (68, false)⟩,
   ⟨some 74, .pick (.t 68) (.k (.bool true)) (.t 73), none⟩] (some [2, 3, 5, 7, 8, 74]))
 (.cond (.t 74)
  (.seq
  (.ops false [
    ⟨some 4, .mov (.k (.bool false)), none⟩] (some [4]))
  .ret)
  .skip))
 (.seq
 (.ops true [
   ⟨some 75, .load 4 true (.t 2) [9], none⟩,
   ⟨some 76, .fld 1 (.t 3), none⟩,
   ⟨some 77, .load 1 false (.t 76) [9], none⟩,
   ⟨some 78, .call 32 [.t 75, .t 77], none⟩,
   ⟨some 79, .fld 2 (.t 3), none⟩,
   ⟨some 80, .load 1 false (.t 79) [9], none⟩,
   ⟨some 81, .idx 2 (.t 78) (.t 80), none⟩,
   ⟨some 82, .load 2 true (.t 81) [9], none⟩,
   ⟨some 9, .alloc 9 [.int 0, .int 0], none⟩,
   ⟨none, .store 2 (.t 9) (.t 82) (some 9), none⟩] (some [2, 3, 5, 7, 8, 9]))
 (.seq
 (.ops false [
   ⟨some 83, .build [.int 0, .int 0] [(0, 1, .k (.int (-1)))], none⟩,
   ⟨some 10, .alloc 10 [.int 0, .int 0], none⟩,
   ⟨none, .store 2 (.t 10) (.t 83) (some 10), none⟩] (some [2, 3, 5, 7, 8, 9, 10]))
 (.seq
 (.seq
 (.ops false [
   ⟨some 84, .fld 0 (.t 9), none⟩,
   ⟨some 85, .load 1 false (.t 84) [], none⟩,
   ⟨some 11, .mov (.t 85), none⟩] (some [2, 3, 5, 7, 8, 9, 10, 11]))
 (.block 0
  (.loop
   (.seq
   (.seq
   (.ops false [
     ⟨some 86, .mov (.t 11), none⟩,
     ⟨some 87, .fld 1 (.t 9), none⟩,
     ⟨some 88, .load 1 false (.t 87) [], none⟩,
     ⟨some 89, .bin .leq (.t 86) (.t 88), none⟩] (some [2, 3, 5, 7, 8, 9, 10, 11, 89]))
   (.cond (.t 89)
    .skip
    (.exit 0)))
   (.seq
   (.block 1
    (.seq
    (.ops false [
      ⟨some 93, .load 4 true (.t 2) [], none⟩,
      ⟨some 94, .fld 1 (.t 3), none⟩,
      ⟨some 95, .load 1 false (.t 94) [], none⟩,
      ⟨some 96, .fld 2 (.t 3), none⟩,
      ⟨some 97, .load 1 false (.t 96) [], none⟩,
      ⟨some 98, .mov (.t 11), none⟩,
      ⟨some 99, .mov (.t 11), none⟩,
      ⟨some 100, .build [.int 0, .int 0] [(0, 1, .t 98), (1, 1, .t 99)], none⟩,
      ⟨some 101, .call 33 [.t 93, .t 95, .t 97, .t 100], none⟩,
      ⟨some 102, .call 34 [.t 101], none⟩,
      ⟨some 92, .mov (.t 102), none⟩,
      ⟨some 103, .ext (.t 92) 0, none⟩,
      ⟨some 104, .ext (.t 92) 1, none⟩,
      ⟨some 12, .mov (.t 103), none⟩,
      ⟨some 13, .mov (.t 104), none⟩] (some [2, 3, 5, 7, 8, 9, 10, 11, 12, 13]))
    (.seq
    (.seq
    (.ops false [
      ⟨some 105, .mov (.t 13), none⟩,
      ⟨some 106, .bin .neq (.t 105) (.k (.int 0)), none⟩,
      ⟨some 107, .mov (.t 106), none⟩,
      ⟨some 108, .mov (.t 12), some (107, false)⟩,
      ⟨some 109, .bin .lss (.t 108) (.k (.int 0)), some (107, false)⟩,
      ⟨some 110, .pick (.t 107) (.k (.bool true)) (.t 109), none⟩,
      ⟨some 111, .mov (.t 110), none⟩,
      ⟨some 112, .mov (.t 12), some (111, false)⟩,
      ⟨some 113, .mov (.t 5), some (111, false)⟩,
      ⟨some 114, .bin .gtr (.t 112) (.t 113), some (111, false)⟩,
      ⟨some 115, .pick (.t 111) (.k (.bool true)) (.t 114), none⟩] (some [2, 3, 5, 7, 8, 9, 10, 11, 12, 115]))
    (.cond (.t 115)
     (.seq
     (.ops false [
       ⟨some 4, .mov (.k (.bool false)), none⟩] (some [4]))
     .ret)
     .skip))
    (.seq
    (.ops false [
      ⟨some 116, .mov (.t 5), none⟩,
      ⟨some 117, .mov (.t 12), none⟩,
      ⟨some 118, .bin .sub (.t 116) (.t 117), none⟩,
      ⟨some 5, .mov (.t 118), none⟩] (some [2, 3, 5, 7, 8, 9, 10, 11, 12]))
    (.seq
    (.seq
    (.ops false [
      ⟨some 119, .mov (.t 12), none⟩,
      ⟨some 120, .bin .gtr (.t 119) (.k (.int 0)), none⟩,
      ⟨some 121, .mov (.t 120), none⟩,
      ⟨some 122, .fld 0 (.t 10), some (121, true)⟩,
      ⟨some 123, .load 1 false (.t 122) [], some (121, true)⟩,
      ⟨some 124, .bin .lss (.t 123) (.k (.int 0)), some (121, true)⟩,
      ⟨some 125, .pick (.t 121) (.t 124) (.k (.bool false)), none⟩] (some [2, 3, 5, 7, 8, 9, 10, 11, 12, 125]))
    (.cond (.t 125)
     (.ops false [
       ⟨some 126, .mov (.t 11), none⟩,
       ⟨some 127, .fld 0 (.t 10), none⟩,
       ⟨none, .store 1 (.t 127) (.t 126) (some 10), none⟩] (some [2, 3, 5, 7, 8, 9, 10, 11, 12]))
     .skip))
    (.seq
    (.ops false [
      ⟨some 128, .mov (.t 12), none⟩,
      ⟨some 129, .bin .gtr (.t 128) (.k (.int 0)), none⟩] (some [2, 3, 5, 7, 8, 9, 10, 11, 129]))
    (.cond (.t 129)
     (.ops false [
       ⟨some 130, .mov (.t 11), none⟩,
       ⟨some 131, .fld 1 (.t 10), none⟩,
       ⟨none, .store 1 (.t 131) (.t 130) (some 10), none⟩] (some [2, 3, 5, 7, 8, 9, 10, 11]))
     .skip)))))))
   (.ops false [
     ⟨some 90, .mov (.t 11), none⟩,
     ⟨some 91, .bin .add (.t 90) (.k (.int 1)), none⟩,
     ⟨some 11, .mov (.t 91), none⟩] (some [2, 3, 5, 7, 8, 9, 10, 11])))))))
 (.seq
 (.ops false [
   ⟨some 132, .mov (.t 5), none⟩,
   ⟨some 133, .bin .eql (.t 132) (.k (.int 0)), none⟩,
   ⟨some 134, .mov (.t 133), none⟩,
   ⟨some 135, .mov (.t 8), some (134, true)⟩,
   ⟨some 136, .bin .neq (.t 135) (.k (.int 0)), some (134, true)⟩,
   ⟨some 137, .mov (.t 136), some (134, true)⟩,
   ⟨some 138, .load 2 true (.t 7) [], some (137, false)⟩,
   ⟨some 139, .load 2 true (.t 10) [], some (137, false)⟩,
   ⟨some 140, .bin (.seq 2) (.t 138) (.t 139), some (137, false)⟩,
   ⟨some 141, .pick (.t 137) (.k (.bool true)) (.t 140), some (134, true)⟩,
   ⟨some 142, .pick (.t 134) (.t 141) (.k (.bool false)), none⟩,
   ⟨some 143, .mov (.t 142), none⟩,
   ⟨some 144, .call 17 [], some (143, true)⟩,
   ⟨some 145, .pick (.t 143) (.t 144) (.k (.bool false)), none⟩,
   ⟨some 4, .mov (.t 145), none⟩] (some [4]))
 .ret)))))))))

theorem m8 : fmatch Try.prog Try.f8 2 [.tmp 4] v8 = true := by kernel_rfl

/-- steening/steeninglaw11.KnotsBack -/
def v9 : VC :=
 (.seq
 (.ops false [
   ⟨some 2, .box 2 4 (.t 0), none⟩,
   ⟨some 3, .box 3 3 (.t 1), none⟩,
   ⟨some 4, .mov (.k (.bool false)), none⟩] (some [2, 3]))
 (.seq
 (.seq
 (.ops true [
   ⟨some 13, .load 4 true (.t 2) [], none⟩,
   ⟨some 14, .call 28 [.t 13], none⟩,
   ⟨some 15, .not (.t 14), none⟩,
   ⟨some 16, .mov (.t 15), none⟩,
   ⟨some 17, .fld 0 (.t 3), some (16, false)⟩,
   ⟨some 18, .load 1 false (.t 17) [], some (16, false)⟩,
   ⟨some 19, .load 4 true (.t 2) [], some (16, false)⟩,
   ⟨some 20, .call 41 [.t 19], some (16, false)⟩,
   ⟨some 21, .bin .sub (.t 20) (.k (.int 1)), some (16, false)⟩,
   ⟨some 22, .call 40 [.t 18, .k (.int 0), .t 21], some (16, false)⟩,
   ⟨some 23, .not (.t 22), some (16, false)⟩,
   ⟨some 24, .pick (.t 16) (.k (.bool true)) (.t 23), none⟩,
   ⟨some 25, .mov (.t 24), none⟩,
   ⟨some 26, .fld 2 (.t 3), some (25, false)⟩,
   ⟨some 27, .load 1 false (.t 26) [], some (25, false)⟩,
   ⟨some 28, .load 4 true (.t 2) [], some (25, false)⟩,
   ⟨some 29, .call 41 [.t 28], some (25, false)⟩,
   ⟨some 30, .bin .sub (.t 29) (.k (.int 1)), some (25, false)⟩,
   ⟨some 31, .call 40 [.t 27, .k (.int 0), .t 30], some (25, false)⟩,
   ⟨some 32, .not (.t 31), some (25, false)⟩,
   ⟨some 33, .pick (.t 25) (.k (.bool true)) (.t 32), none⟩] (some [2, 3, 33]))
 (.cond (.t 33)
  (.seq
  (.ops false [
    ⟨some 34, .call 17 [], none⟩,
    ⟨some 4, .mov (.t 34), none⟩] (some [4]))
  .ret)
  .skip))
 (.seq
 (.ops false [
   ⟨some 36, .load 4 true (.t 2) [], none⟩,
   ⟨some 37, .fld 0 (.t 3), none⟩,
   ⟨some 38, .load 1 false (.t 37) [], none⟩,
   ⟨some 39, .call 42 [.t 36, .t 38], none⟩,
   ⟨some 35, .mov (.t 39), none⟩,
   ⟨some 40, .ext (.t 35) 0, none⟩,
   ⟨some 41, .ext (.t 35) 1, none⟩,
   ⟨some 5, .mov (.t 40), none⟩,
   ⟨some 6, .mov (.t 41), none⟩] (some [2, 3, 5, 6]))
 (.seq
 (.ops false [
   ⟨some 43, .load 4 true (.t 2) [], none⟩,
   ⟨some 44, .fld 2 (.t 3), none⟩,
   ⟨some 45, .load 1 false (.t 44) [], none⟩,
   ⟨some 46, .call 42 [.t 43, .t 45], none⟩,
   ⟨some 42, .mov (.t 46), none⟩,
   ⟨some 47, .ext (.t 42) 0, none⟩,
   ⟨some 48, .ext (.t 42) 1, none⟩,
   ⟨some 7, .mov (.t 47), none⟩,
   ⟨some 8, .mov (.t 48), none⟩] (some [2, 3, 5, 6, 7, 8]))
 (.seq
 (.seq
 (.ops true [
   ⟨some 49, .mov (.t 6), none⟩,
   ⟨some 50, .bin .neq (.t 49) (.k (.int 0)), none⟩,
   ⟨some 51, .mov (.t 50), none⟩,
   ⟨some 52, .mov (.t 8), some (51, false)⟩,
   ⟨some 53, .bin .neq (.t 52) (.k (.int 0)), some (51, false)⟩,
   ⟨some 54, .pick (.t 51) (.k (.bool true)) (.t 53), none⟩,
   ⟨some 55, .mov (.t 54), none⟩,
   ⟨some 56, .load 4 true (.t 2) [], some (55, false)⟩,
   ⟨some 57, .mov (.t 5), some (55, false)⟩,
   ⟨some 58, .call 43 [.t 56, .t 57], some (55, false)⟩,
   ⟨some 59, .not (.t 58), some (55, false)⟩,
   ⟨some 60, .pick (.t 55) (.k (.bool true)) (.t 59), none⟩,
   ⟨some 61, .mov (.t 60), none⟩,
   ⟨some 62, .load 4 true (.t 2) [], some (61, false)⟩,
   ⟨some 63, .mov (.t 7), some (61, false)⟩,
   ⟨some 64, .call 43 [.t 62, .t 63], some (61, false)⟩,
   ⟨some 65, .not (.t 64), some (61, false)⟩,
   ⟨some 66, .pick (.t 61) (.k (.bool true)) (.t 65), none⟩,
   ⟨some 67, .mov (.t 66), none⟩,
   ⟨some 68, .mov (.t 5), some (67, false)⟩,
   ⟨some 69, .mov (.t 7), some (67, false)⟩,
   ⟨some 70, .call 44 [.t 68, .t 69], some (67, false)⟩,
   ⟨some 71, .fld 0 (.t 3), some (67, false)⟩,
   ⟨some 72, .load 1 false (.t 71) [], some (67, false)⟩,
   ⟨some 73, .fld 2 (.t 3), some (67, false)⟩,
   ⟨some 74, .load 1 false (.t 73) [], some (67, false)⟩,
   ⟨some 75, .bin .lss (.t 72) (.t 74), some (67, false)⟩,
   ⟨some 76, .bin .bne (.t 70) (.t 75), some (67, false)⟩,
   ⟨some 77, .pick (.t 67) (.k (.bool true)) (.t 76), none⟩] (some [2, 3, 5, 7, 77]))
 (.cond (.t 77)
  (.seq
  (.ops false [
    ⟨some 4, .mov (.k (.bool false)), none⟩] (some [4]))
  .ret)
  .skip))
 (.seq
 (.ops true [
   ⟨some 79, .load 4 true (.t 2) [], none⟩,
   ⟨some 80, .bslice 1 [], none⟩,
   ⟨some 81, .mov (.t 5), none⟩,
   ⟨some 82, .app 82 1 8 (.t 80) (.t 81), none⟩,
   ⟨some 83, .call 45 [.t 79, .t 82], none⟩,
   ⟨some 78, .mov (.t 83), none⟩,
   ⟨some 84, .ext (.t 78) 0, none⟩,
   ⟨some 85, .ext (.t 78) 1, none⟩,
   ⟨some 9, .mov (.t 84), none⟩,
   ⟨some 10, .mov (.t 85), none⟩] (some [2, 3, 7, 9, 10]))
 (.seq
 (.seq
 (.ops false [
   ⟨some 86, .mov (.t 10), none⟩,
   ⟨some 87, .bin .neq (.t 86) (.k (.int 0)), none⟩,
   ⟨some 88, .mov (.t 87), none⟩,
   ⟨some 89, .mov (.t 9), some (88, false)⟩,
   ⟨some 90, .fld 0 (.t 3), some (88, false)⟩,
   ⟨some 91, .load 1 false (.t 90) [], some (88, false)⟩,
   ⟨some 92, .bin .neq (.t 89) (.t 91), some (88, false)⟩,
   ⟨some 93, .pick (.t 88) (.k (.bool true)) (.t 92), none⟩] (some [2, 7, 93]))
 (.cond (.t 93)
  (.seq
  (.ops false [
    ⟨some 4, .mov (.k (.bool false)), none⟩] (some [4]))
  .ret)
  .skip))
 (.seq
 (.ops true [
   ⟨some 95, .load 4 true (.t 2) [], none⟩,
   ⟨some 96, .load 4 true (.t 2) [], none⟩,
   ⟨some 97, .mov (.t 7), none⟩,
   ⟨some 98, .call 46 [.t 96, .t 97], none⟩,
   ⟨some 99, .call 42 [.t 95, .t 98], none⟩,
   ⟨some 94, .mov (.t 99), none⟩,
   ⟨some 100, .ext (.t 94) 0, none⟩,
   ⟨some 101, .ext (.t 94) 1, none⟩,
   ⟨some 11, .mov (.t 100), none⟩,
   ⟨some 12, .mov (.t 101), none⟩] (some [7, 11, 12]))
 (.seq
 (.ops false [
   ⟨some 102, .mov (.t 12), none⟩,
   ⟨some 103, .bin .eql (.t 102) (.k (.int 0)), none⟩,
   ⟨some 104, .mov (.t 103), none⟩,
   ⟨some 105, .mov (.t 11), some (104, true)⟩,
   ⟨some 106, .mov (.t 7), some (104, true)⟩,
   ⟨some 107, .call 27 [.t 105, .t 106], some (104, true)⟩,
   ⟨some 108, .pick (.t 104) (.t 107) (.k (.bool false)), none⟩,
   ⟨some 109, .mov (.t 108), none⟩,
   ⟨some 110, .call 17 [], some (109, true)⟩,
   ⟨some 111, .pick (.t 109) (.t 110) (.k (.bool false)), none⟩,
   ⟨some 4, .mov (.t 111), none⟩] (some [4]))
 .ret)))))))))

theorem m9 : fmatch Try.prog Try.f9 2 [.tmp 4] v9 = true := by kernel_rfl

/-- steening/steeninglaw11.KnotsOrder -/
def v10 : VC :=
 (.seq
 (.ops false [
   ⟨some 3, .box 3 4 (.t 0), none⟩,
   ⟨some 5, .box 5 3 (.t 2), none⟩,
   ⟨some 6, .mov (.k (.bool false)), none⟩] (some [1, 3, 5]))
 (.seq
 (.seq
 (.ops false [
   ⟨some 21, .load 4 true (.t 3) [], none⟩,
   ⟨some 22, .call 28 [.t 21], none⟩,
   ⟨some 23, .not (.t 22), none⟩,
   ⟨some 24, .mov (.t 23), none⟩,
   ⟨some 25, .mov (.t 1), some (24, false)⟩,
   ⟨some 26, .bin .lss (.t 25) (.k (.int 0)), some (24, false)⟩,
   ⟨some 27, .pick (.t 24) (.k (.bool true)) (.t 26), none⟩,
   ⟨some 28, .mov (.t 27), none⟩,
   ⟨some 29, .mov (.t 1), some (28, false)⟩,
   ⟨some 30, .bin .gtr (.t 29) (.k (.int 100)), some (28, false)⟩,
   ⟨some 31, .pick (.t 28) (.k (.bool true)) (.t 30), none⟩,
   ⟨some 32, .mov (.t 31), none⟩,
   ⟨some 33, .load 4 true (.t 3) [], some (32, false)⟩,
   ⟨some 34, .fld 2 (.t 5), some (32, false)⟩,
   ⟨some 35, .load 1 false (.t 34) [], some (32, false)⟩,
   ⟨some 36, .call 30 [.t 33, .t 35], some (32, false)⟩,
   ⟨some 37, .not (.t 36), some (32, false)⟩,
   ⟨some 38, .pick (.t 32) (.k (.bool true)) (.t 37), none⟩] (some [1, 3, 5, 38]))
 (.cond (.t 38)
  (.seq
  (.ops false [
    ⟨some 39, .call 17 [], none⟩,
    ⟨some 6, .mov (.t 39), none⟩] (some [6]))
  .ret)
  .skip))
 (.seq
 (.ops false [
   ⟨some 40, .load 4 true (.t 3) [], none⟩,
   ⟨some 41, .call 18 [.t 40], none⟩,
   ⟨some 7, .alloc 7 [.int 0, .int 0, .sl 1 [] .full, .sl 2 [] .full], none⟩,
   ⟨none, .store 4 (.t 7) (.t 41) (some 7), none⟩] (some [1, 3, 5, 7]))
 (.seq
 (.seq
 (.ops false [
   ⟨some 8, .mov (.k (.int 0)), none⟩] (some [1, 3, 5, 7, 8]))
 (.block 0
  (.loop
   (.seq
   (.seq
   (.ops false [
     ⟨some 42, .mov (.t 8), none⟩,
     ⟨some 43, .fld 2 (.t 3), none⟩,
     ⟨some 44, .load 1 false (.t 43) [], none⟩,
     ⟨some 45, .len (.t 44), none⟩,
     ⟨some 46, .bin .lss (.t 42) (.t 45), none⟩] (some [1, 3, 5, 7, 8, 46]))
   (.cond (.t 46)
    .skip
    (.exit 0)))
   (.seq
   (.block 1
    (.ops true [
      ⟨some 49, .fld 2 (.t 7), none⟩,
      ⟨some 50, .load 1 false (.t 49) [], none⟩,
      ⟨some 51, .mov (.t 8), none⟩,
      ⟨some 52, .bslice 2 [], none⟩,
      ⟨some 53, .fld 2 (.t 3), none⟩,
      ⟨some 54, .load 1 false (.t 53) [], none⟩,
      ⟨some 55, .mov (.t 8), none⟩,
      ⟨some 56, .mov (.t 1), none⟩,
      ⟨some 57, .bin .add (.t 55) (.t 56), none⟩,
      ⟨some 58, .fld 2 (.t 3), none⟩,
      ⟨some 59, .load 1 false (.t 58) [], none⟩,
      ⟨some 60, .len (.t 59), none⟩,
      ⟨some 61, .bin .rem (.t 57) (.t 60), none⟩,
      ⟨some 62, .idx 1 (.t 54) (.t 61), none⟩,
      ⟨some 63, .load 1 false (.t 62) [], none⟩,
      ⟨some 64, .app 64 2 16 (.t 52) (.t 63), none⟩,
      ⟨some 65, .idx 1 (.t 50) (.t 51), none⟩,
      ⟨none, .store 1 (.t 65) (.t 64) none, none⟩] (some [1, 3, 5, 7, 8])))
   (.ops false [
     ⟨some 47, .mov (.t 8), none⟩,
     ⟨some 48, .bin .add (.t 47) (.k (.int 1)), none⟩,
     ⟨some 8, .mov (.t 48), none⟩] (some [1, 3, 5, 7, 8])))))))
 (.seq
 (.ops false [
   ⟨some 67, .load 4 true (.t 3) [], none⟩,
   ⟨some 68, .call 34 [.t 67], none⟩,
   ⟨some 66, .mov (.t 68), none⟩,
   ⟨some 69, .ext (.t 66) 0, none⟩,
   ⟨some 70, .ext (.t 66) 1, none⟩,
   ⟨some 9, .mov (.t 69), none⟩,
   ⟨some 10, .mov (.t 70), none⟩] (some [3, 5, 7, 9, 10]))
 (.seq
 (.ops false [
   ⟨some 72, .load 4 true (.t 7) [], none⟩,
   ⟨some 73, .call 34 [.t 72], none⟩,
   ⟨some 71, .mov (.t 73), none⟩,
   ⟨some 74, .ext (.t 71) 0, none⟩,
   ⟨some 75, .ext (.t 71) 1, none⟩,
   ⟨some 11, .mov (.t 74), none⟩,
   ⟨some 12, .mov (.t 75), none⟩] (some [3, 5, 7, 9, 10, 11, 12]))
 (.seq
 (.ops false [
   ⟨some 77, .load 4 true (.t 3) [], none⟩,
   ⟨some 78, .call 23 [.t 77], none⟩,
   ⟨some 76, .mov (.t 78), none⟩,
   ⟨some 79, .ext (.t 76) 0, none⟩,
   ⟨some 80, .ext (.t 76) 1, none⟩,
   ⟨some 13, .mov (.t 79), none⟩,
   ⟨some 14, .mov (.t 80), none⟩] (some [3, 5, 7, 9, 10, 11, 12, 13, 14]))
 (.seq
 (.ops false [
   ⟨some 82, .load 4 true (.t 7) [], none⟩,
   ⟨some 83, .call 23 [.t 82], none⟩,
   ⟨some 81, .mov (.t 83), none⟩,
   ⟨some 84, .ext (.t 81) 0, none⟩,
   ⟨some 85, .ext (.t 81) 1, none⟩,
   ⟨some 15, .mov (.t 84), none⟩,
   ⟨some 16, .mov (.t 85), none⟩] (some [3, 5, 7, 9, 10, 11, 12, 13, 14, 15, 16]))
 (.seq
 (.seq
 (.ops false [
   ⟨some 86, .mov (.t 9), none⟩,
   ⟨some 87, .mov (.t 11), none⟩,
   ⟨some 88, .bin .neq (.t 86) (.t 87), none⟩,
   ⟨some 89, .mov (.t 88), none⟩,
   ⟨some 90, .mov (.t 10), some (89, false)⟩,
   ⟨some 91, .mov (.t 12), some (89, false)⟩,
   ⟨some 92, .bin .neq (.t 90) (.t 91), some (89, false)⟩,
   ⟨some 93, .pick (.t 89) (.k (.bool true)) (.t 92), none⟩,
   ⟨some 94, .mov (.t 93), none⟩,
   ⟨some 95, .mov (.t 13), some (94, false)⟩,
   ⟨some 96, .mov (.t 15), some (94, false)⟩,
   ⟨some 97, .bin .neq (.t 95) (.t 96), some (94, false)⟩,
   ⟨some 98, .pick (.t 94) (.k (.bool true)) (.t 97), none⟩,
   ⟨some 99, .mov (.t 98), none⟩,
   ⟨some 100, .mov (.t 14), some (99, false)⟩,
   ⟨some 101, .mov (.t 16), some (99, false)⟩,
   ⟨some 102, .bin .neq (.t 100) (.t 101), some (99, false)⟩,
   ⟨some 103, .pick (.t 99) (.k (.bool true)) (.t 102), none⟩] (some [3, 5, 7, 103]))
 (.cond (.t 103)
  (.seq
  (.ops false [
    ⟨some 6, .mov (.k (.bool false)), none⟩] (some [6]))
  .ret)
  .skip))
 (.seq
 (.ops false [
   ⟨some 105, .load 4 true (.t 3) [], none⟩,
   ⟨some 106, .fld 2 (.t 3), none⟩,
   ⟨some 107, .load 1 false (.t 106) [], none⟩,
   ⟨some 108, .len (.t 107), none⟩,
   ⟨some 109, .call 35 [.t 105, .t 108], none⟩,
   ⟨some 104, .mov (.t 109), none⟩,
   ⟨some 110, .ext (.t 104) 0, none⟩,
   ⟨some 111, .ext (.t 104) 1, none⟩,
   ⟨some 17, .alloc 17 [.int 0, .int 0], none⟩,
   ⟨none, .store 2 (.t 17) (.t 110) (some 17), none⟩,
   ⟨some 10, .mov (.t 111), none⟩] (some [3, 5, 7, 10, 17]))
 (.seq
 (.ops false [
   ⟨some 113, .load 4 true (.t 7) [], none⟩,
   ⟨some 114, .fld 2 (.t 3), none⟩,
   ⟨some 115, .load 1 false (.t 114) [], none⟩,
   ⟨some 116, .len (.t 115), none⟩,
   ⟨some 117, .call 35 [.t 113, .t 116], none⟩,
   ⟨some 112, .mov (.t 117), none⟩,
   ⟨some 118, .ext (.t 112) 0, none⟩,
   ⟨some 119, .ext (.t 112) 1, none⟩,
   ⟨some 18, .alloc 18 [.int 0, .int 0], none⟩,
   ⟨none, .store 2 (.t 18) (.t 118) (some 18), none⟩,
   ⟨some 12, .mov (.t 119), none⟩] (some [3, 5, 7, 10, 12, 17, 18]))
 (.seq
 (.ops false [
   ⟨some 121, .load 4 true (.t 3) [], none⟩,
   ⟨some 122, .fld 2 (.t 5), none⟩,
   ⟨some 123, .load 1 false (.t 122) [], none⟩,
   ⟨some 124, .call 47 [.t 121, .t 123], none⟩,
   ⟨some 120, .mov (.t 124), none⟩,
   ⟨some 125, .ext (.t 120) 0, none⟩,
   ⟨some 126, .ext (.t 120) 1, none⟩,
   ⟨some 19, .alloc 19 [.int 0, .int 0], none⟩,
   ⟨none, .store 2 (.t 19) (.t 125) (some 19), none⟩,
   ⟨some 14, .mov (.t 126), none⟩] (some [5, 7, 10, 12, 14, 17, 18, 19]))
 (.seq
 (.ops false [
   ⟨some 128, .load 4 true (.t 7) [], none⟩,
   ⟨some 129, .fld 2 (.t 5), none⟩,
   ⟨some 130, .load 1 false (.t 129) [], none⟩,
   ⟨some 131, .call 47 [.t 128, .t 130], none⟩,
   ⟨some 127, .mov (.t 131), none⟩,
   ⟨some 132, .ext (.t 127) 0, none⟩,
   ⟨some 133, .ext (.t 127) 1, none⟩,
   ⟨some 20, .alloc 20 [.int 0, .int 0], none⟩,
   ⟨none, .store 2 (.t 20) (.t 132) (some 20), none⟩,
   ⟨some 16, .mov (.t 133), none⟩] (some [10, 12, 14, 16, 17, 18, 19, 20]))
 (.seq
 (.ops false [
   ⟨some 134, .load 2 true (.t 17) [], none⟩,
   ⟨some 135, .load 2 true (.t 18) [], none⟩,
   ⟨some 136, .bin (.seq 2) (.t 134) (.t 135), none⟩,
   ⟨some 137, .mov (.t 136), none⟩,
   ⟨some 138, .mov (.t 10), some (137, true)⟩,
   ⟨some 139, .mov (.t 12), some (137, true)⟩,
   ⟨some 140, .bin .eql (.t 138) (.t 139), some (137, true)⟩,
   ⟨some 141, .pick (.t 137) (.t 140) (.k (.bool false)), none⟩,
   ⟨some 142, .mov (.t 141), none⟩,
   ⟨some 143, .load 2 true (.t 19) [], some (142, true)⟩,
   ⟨some 144, .load 2 true (.t 20) [], some (142, true)⟩,
   ⟨some 145, .bin (.seq 2) (.t 143) (.t 144), some (142, true)⟩,
   ⟨some 146, .pick (.t 142) (.t 145) (.k (.bool false)), none⟩,
   ⟨some 147, .mov (.t 146), none⟩,
   ⟨some 148, .mov (.t 14), some (147, true)⟩,
   ⟨some 149, .mov (.t 16), some (147, true)⟩,
   ⟨some 150, .bin .eql (.t 148) (.t 149), some (147, true)⟩,
   ⟨some 151, .pick (.t 147) (.t 150) (.k (.bool false)), none⟩,
   ⟨some 152, .mov (.t 151), none⟩,
   ⟨some 153, .call 17 [], some (152, true)⟩,
   ⟨some 154, .pick (.t 152) (.t 153) (.k (.bool false)), none⟩,
   ⟨some 6, .mov (.t 154), none⟩] (some [6]))
 .ret))))))))))))))

theorem m10 : fmatch Try.prog Try.f10 3 [.tmp 6] v10 = true := by kernel_rfl

/-- steening/steeninglaw11.KnotsNothing -/
def v11 : VC :=
 (.seq
 (.ops false [
   ⟨some 2, .box 2 4 (.t 0), none⟩,
   ⟨some 3, .box 3 3 (.t 1), none⟩,
   ⟨some 4, .mov (.k (.bool false)), none⟩] (some [2, 3]))
 (.seq
 (.seq
 (.ops false [
   ⟨some 18, .load 4 true (.t 2) [], none⟩,
   ⟨some 19, .call 28 [.t 18], none⟩,
   ⟨some 20, .not (.t 19), none⟩,
   ⟨some 21, .mov (.t 20), none⟩,
   ⟨some 22, .fld 2 (.t 2), some (21, false)⟩,
   ⟨some 23, .load 1 false (.t 22) [], some (21, false)⟩,
   ⟨some 24, .len (.t 23), some (21, false)⟩,
   ⟨some 25, .bin .gtr (.t 24) (.k (.int 3)), some (21, false)⟩,
   ⟨some 26, .pick (.t 21) (.k (.bool true)) (.t 25), none⟩,
   ⟨some 27, .mov (.t 26), none⟩,
   ⟨some 28, .fld 1 (.t 3), some (27, false)⟩,
   ⟨some 29, .load 1 false (.t 28) [], some (27, false)⟩,
   ⟨some 30, .fld 2 (.t 2), some (27, false)⟩,
   ⟨some 31, .load 1 false (.t 30) [], some (27, false)⟩,
   ⟨some 32, .len (.t 31), some (27, false)⟩,
   ⟨some 33, .bin .sub (.t 32) (.k (.int 1)), some (27, false)⟩,
   ⟨some 34, .call 40 [.t 29, .k (.int 0), .t 33], some (27, false)⟩,
   ⟨some 35, .not (.t 34), some (27, false)⟩,
   ⟨some 36, .pick (.t 27) (.k (.bool true)) (.t 35), none⟩,
   ⟨some 37, .mov (.t 36), none⟩,
   ⟨some 38, .load 4 true (.t 2) [], some (37, false)⟩,
   ⟨some 39, .fld 2 (.t 3), some (37, false)⟩,
   ⟨some 40, .load 1 false (.t 39) [], some (37, false)⟩,
   ⟨some 41, .call 30 [.t 38, .t 40], some (37, false)⟩,
   ⟨some 42, .not (.t 41), some (37, false)⟩,
   ⟨some 43, .pick (.t 37) (.k (.bool true)) (.t 42), none⟩] (some [2, 3, 43]))
 (.cond (.t 43)
  (.seq
  (.ops false [
    ⟨some 44, .call 17 [], none⟩,
    ⟨some 4, .mov (.t 44), none⟩] (some [4]))
  .ret)
  .skip))
 (.seq
 (.ops false [
   ⟨some 45, .load 4 true (.t 2) [], none⟩,
   ⟨some 46, .call 18 [.t 45], none⟩,
   ⟨some 5, .alloc 5 [.int 0, .int 0, .sl 1 [] .full, .sl 2 [] .full], none⟩,
   ⟨none, .store 4 (.t 5) (.t 46) (some 5), none⟩] (some [2, 3, 5]))
 (.seq
 (.ops true [
   ⟨some 47, .fld 2 (.t 5), none⟩,
   ⟨some 48, .load 1 false (.t 47) [51], none⟩,
   ⟨some 49, .fld 1 (.t 2), none⟩,
   ⟨some 50, .load 1 false (.t 49) [51], none⟩,
   ⟨some 51, .makes 51 2 16 true [.int 0, .int 0] (.t 50), none⟩,
   ⟨some 52, .bslice 1 [.t 51], none⟩,
   ⟨some 53, .app 53 1 24 (.t 48) (.t 52), none⟩,
   ⟨some 54, .fld 2 (.t 5), none⟩,
   ⟨none, .store 1 (.t 54) (.t 53) (some 5), none⟩] (some [2, 3, 5]))
 (.seq
 (.ops false [
   ⟨some 56, .load 4 true (.t 2) [], none⟩,
   ⟨some 57, .call 34 [.t 56], none⟩,
   ⟨some 55, .mov (.t 57), none⟩,
   ⟨some 58, .ext (.t 55) 0, none⟩,
   ⟨some 59, .ext (.t 55) 1, none⟩,
   ⟨some 6, .mov (.t 58), none⟩,
   ⟨some 7, .mov (.t 59), none⟩] (some [2, 3, 5, 6, 7]))
 (.seq
 (.ops false [
   ⟨some 61, .load 4 true (.t 5) [], none⟩,
   ⟨some 62, .call 34 [.t 61], none⟩,
   ⟨some 60, .mov (.t 62), none⟩,
   ⟨some 63, .ext (.t 60) 0, none⟩,
   ⟨some 64, .ext (.t 60) 1, none⟩,
   ⟨some 8, .mov (.t 63), none⟩,
   ⟨some 9, .mov (.t 64), none⟩] (some [2, 3, 5, 6, 7, 8, 9]))
 (.seq
 (.ops false [
   ⟨some 66, .load 4 true (.t 2) [], none⟩,
   ⟨some 67, .call 23 [.t 66], none⟩,
   ⟨some 65, .mov (.t 67), none⟩,
   ⟨some 68, .ext (.t 65) 0, none⟩,
   ⟨some 69, .ext (.t 65) 1, none⟩,
   ⟨some 10, .mov (.t 68), none⟩,
   ⟨some 11, .mov (.t 69), none⟩] (some [2, 3, 5, 6, 7, 8, 9, 10, 11]))
 (.seq
 (.ops false [
   ⟨some 71, .load 4 true (.t 5) [], none⟩,
   ⟨some 72, .call 23 [.t 71], none⟩,
   ⟨some 70, .mov (.t 72), none⟩,
   ⟨some 73, .ext (.t 70) 0, none⟩,
   ⟨some 74, .ext (.t 70) 1, none⟩,
   ⟨some 12, .mov (.t 73), none⟩,
   ⟨some 13, .mov (.t 74), none⟩] (some [2, 3, 5, 6, 7, 8, 9, 10, 11, 12, 13]))
 (.seq
 (.seq
 (.ops false [
   ⟨some 75, .mov (.t 6), none⟩,
   ⟨some 76, .mov (.t 8), none⟩,
   ⟨some 77, .bin .neq (.t 75) (.t 76), none⟩,
   ⟨some 78, .mov (.t 77), none⟩,
   ⟨some 79, .mov (.t 7), some (78, false)⟩,
   ⟨some 80, .mov (.t 9), some (78, false)⟩,
   ⟨some 81, .bin .neq (.t 79) (.t 80), some (78, false)⟩,
   ⟨some 82, .pick (.t 78) (.k (.bool true)) (.t 81), none⟩,
   ⟨some 83, .mov (.t 82), none⟩,
   ⟨some 84, .mov (.t 10), some (83, false)⟩,
   ⟨some 85, .mov (.t 12), some (83, false)⟩,
   ⟨some 86, .bin .lss (.t 84) (.t 85), some (83, false)⟩,
   ⟨some 87, .pick (.t 83) (.k (.bool true)) (.t 86), none⟩,
   ⟨some 88, .mov (.t 87), none⟩,
   ⟨some 89, .mov (.t 11), some (88, false)⟩,
   ⟨some 90, .mov (.t 13), some (88, false)⟩,
   ⟨some 91, .bin .neq (.t 89) (.t 90), some (88, false)⟩,
   ⟨some 92, .pick (.t 88) (.k (.bool true)) (.t 91), none⟩] (some [2, 3, 5, 92]))
 (.cond (.t 92)
  (.seq
  (.ops false [
    ⟨some 4, .mov (.k (.bool false)), none⟩] (some [4]))
  .ret)
  .skip))
 (.seq
 (.ops false [
   ⟨some 94, .load 4 true (.t 2) [], none⟩,
   ⟨some 95, .fld 1 (.t 3), none⟩,
   ⟨some 96, .load 1 false (.t 95) [], none⟩,
   ⟨some 97, .call 35 [.t 94, .t 96], none⟩,
   ⟨some 93, .mov (.t 97), none⟩,
   ⟨some 98, .ext (.t 93) 0, none⟩,
   ⟨some 99, .ext (.t 93) 1, none⟩,
   ⟨some 14, .alloc 14 [.int 0, .int 0], none⟩,
   ⟨none, .store 2 (.t 14) (.t 98) (some 14), none⟩,
   ⟨some 7, .mov (.t 99), none⟩] (some [2, 3, 5, 7, 14]))
 (.seq
 (.ops false [
   ⟨some 101, .load 4 true (.t 5) [], none⟩,
   ⟨some 102, .fld 1 (.t 3), none⟩,
   ⟨some 103, .load 1 false (.t 102) [], none⟩,
   ⟨some 104, .call 35 [.t 101, .t 103], none⟩,
   ⟨some 100, .mov (.t 104), none⟩,
   ⟨some 105, .ext (.t 100) 0, none⟩,
   ⟨some 106, .ext (.t 100) 1, none⟩,
   ⟨some 15, .alloc 15 [.int 0, .int 0], none⟩,
   ⟨none, .store 2 (.t 15) (.t 105) (some 15), none⟩,
   ⟨some 9, .mov (.t 106), none⟩] (some [2, 3, 5, 7, 9, 14, 15]))
 (.seq
 (.ops false [
   ⟨some 108, .load 4 true (.t 2) [], none⟩,
   ⟨some 109, .fld 2 (.t 3), none⟩,
   ⟨some 110, .load 1 false (.t 109) [], none⟩,
   ⟨some 111, .call 47 [.t 108, .t 110], none⟩,
   ⟨some 107, .mov (.t 111), none⟩,
   ⟨some 112, .ext (.t 107) 0, none⟩,
   ⟨some 113, .ext (.t 107) 1, none⟩,
   ⟨some 16, .alloc 16 [.int 0, .int 0], none⟩,
   ⟨none, .store 2 (.t 16) (.t 112) (some 16), none⟩,
   ⟨some 11, .mov (.t 113), none⟩] (some [3, 5, 7, 9, 11, 14, 15, 16]))
 (.seq
 (.ops false [
   ⟨some 115, .load 4 true (.t 5) [], none⟩,
   ⟨some 116, .fld 2 (.t 3), none⟩,
   ⟨some 117, .load 1 false (.t 116) [], none⟩,
   ⟨some 118, .call 47 [.t 115, .t 117], none⟩,
   ⟨some 114, .mov (.t 118), none⟩,
   ⟨some 119, .ext (.t 114) 0, none⟩,
   ⟨some 120, .ext (.t 114) 1, none⟩,
   ⟨some 17, .alloc 17 [.int 0, .int 0], none⟩,
   ⟨none, .store 2 (.t 17) (.t 119) (some 17), none⟩,
   ⟨some 13, .mov (.t 120), none⟩] (some [7, 9, 11, 13, 14, 15, 16, 17]))
 (.seq
 (.ops false [
   ⟨some 121, .load 2 true (.t 14) [], none⟩,
   ⟨some 122, .load 2 true (.t 15) [], none⟩,
   ⟨some 123, .bin (.seq 2) (.t 121) (.t 122), none⟩,
   ⟨some 124, .mov (.t 123), none⟩,
   ⟨some 125, .mov (.t 7), some (124, true)⟩,
   ⟨some 126, .mov (.t 9), some (124, true)⟩,
   ⟨some 127, .bin .eql (.t 125) (.t 126), some (124, true)⟩,
   ⟨some 128, .pick (.t 124) (.t 127) (.k (.bool false)), none⟩,
   ⟨some 129, .mov (.t 128), none⟩,
   ⟨some 130, .load 2 true (.t 16) [], some (129, true)⟩,
   ⟨some 131, .load 2 true (.t 17) [], some (129, true)⟩,
   ⟨some 132, .bin (.seq 2) (.t 130) (.t 131), some (129, true)⟩,
   ⟨some 133, .pick (.t 129) (.t 132) (.k (.bool false)), none⟩,
   ⟨some 134, .mov (.t 133), none⟩,
   ⟨some 135, .mov (.t 11), some (134, true)⟩,
   ⟨some 136, .mov (.t 13), some (134, true)⟩,
   ⟨some 137, .bin .eql (.t 135) (.t 136), some (134, true)⟩,
   ⟨some 138, .pick (.t 134) (.t 137) (.k (.bool false)), none⟩,
   ⟨some 139, .mov (.t 138), none⟩,
   ⟨some 140, .call 17 [], some (139, true)⟩,
   ⟨some 141, .pick (.t 139) (.t 140) (.k (.bool false)), none⟩,
   ⟨some 4, .mov (.t 141), none⟩] (some [4]))
 .ret))))))))))))))

theorem m11 : fmatch Try.prog Try.f11 2 [.tmp 4] v11 = true := by kernel_rfl

/-- steening/steeninglaw11.KnotsTie -/
def v12 : VC :=
 (.seq
 (.ops false [
   ⟨some 3, .box 3 4 (.t 0), none⟩,
   ⟨some 4, .box 4 3 (.t 1), none⟩,
   ⟨some 6, .mov (.k (.bool false)), none⟩] (some [2, 3, 4]))
 (.seq
 (.seq
 (.ops false [
   ⟨some 21, .load 4 true (.t 3) [], none⟩,
   ⟨some 22, .call 48 [.t 21], none⟩,
   ⟨some 23, .mov (.t 22), none⟩,
   ⟨some 24, .mov (.t 2), some (23, false)⟩,
   ⟨some 25, .len (.t 24), some (23, false)⟩,
   ⟨some 26, .bin .gtr (.t 25) (.k (.int 40)), some (23, false)⟩,
   ⟨some 27, .pick (.t 23) (.k (.bool true)) (.t 26), none⟩] (some [2, 3, 4, 27]))
 (.cond (.t 27)
  (.seq
  (.ops false [
    ⟨some 28, .call 17 [], none⟩,
    ⟨some 6, .mov (.t 28), none⟩] (some [6]))
  .ret)
  .skip))
 (.seq
 (.ops false [
   ⟨some 29, .load 4 true (.t 3) [], none⟩,
   ⟨some 30, .call 18 [.t 29], none⟩,
   ⟨some 31, .bslice 1 [], none⟩,
   ⟨some 32, .mov (.t 2), none⟩,
   ⟨some 33, .app 33 1 8 (.t 31) (.t 32), none⟩,
   ⟨some 7, .alloc 7 [.int 0, .int 0, .sl 1 [] .full, .sl 2 [] .full], none⟩,
   ⟨none, .store 4 (.t 7) (.t 30) (some 7), none⟩,
   ⟨some 8, .mov (.t 33), none⟩] (some [2, 3, 4, 7, 8]))
 (.seq
 (.seq
 (.ops true [
   ⟨some 34, .load 4 true (.t 7) [], none⟩,
   ⟨some 35, .call 49 [.t 34], none⟩,
   ⟨some 36, .load 4 true (.t 3) [], none⟩,
   ⟨some 37, .call 50 [.t 36], none⟩,
   ⟨some 38, .bin .neq (.t 35) (.t 37), none⟩] (some [2, 3, 4, 7, 8, 38]))
 (.cond (.t 38)
  (.seq
  (.ops false [
    ⟨some 6, .mov (.k (.bool false)), none⟩] (some [6]))
  .ret)
  .skip))
 (.seq
 (.ops false [
   ⟨some 40, .load 4 true (.t 7) [], none⟩,
   ⟨some 41, .fld 0 (.t 4), none⟩,
   ⟨some 42, .load 1 false (.t 41) [], none⟩,
   ⟨some 43, .call 42 [.t 40, .t 42], none⟩,
   ⟨some 39, .mov (.t 43), none⟩,
   ⟨some 44, .ext (.t 39) 0, none⟩,
   ⟨some 45, .ext (.t 39) 1, none⟩,
   ⟨some 9, .mov (.t 44), none⟩,
   ⟨some 10, .mov (.t 45), none⟩] (some [2, 3, 4, 7, 8, 9, 10]))
 (.seq
 (.ops false [
   ⟨some 47, .load 4 true (.t 3) [], none⟩,
   ⟨some 48, .fld 0 (.t 4), none⟩,
   ⟨some 49, .load 1 false (.t 48) [], none⟩,
   ⟨some 50, .call 51 [.t 47, .t 49], none⟩,
   ⟨some 46, .mov (.t 50), none⟩,
   ⟨some 51, .ext (.t 46) 0, none⟩,
   ⟨some 52, .ext (.t 46) 1, none⟩,
   ⟨some 11, .mov (.t 51), none⟩,
   ⟨some 12, .mov (.t 52), none⟩] (some [2, 3, 4, 7, 8, 9, 10, 11, 12]))
 (.seq
 (.ops false [
   ⟨some 54, .load 4 true (.t 7) [], none⟩,
   ⟨some 55, .mov (.t 8), none⟩,
   ⟨some 56, .call 45 [.t 54, .t 55], none⟩,
   ⟨some 53, .mov (.t 56), none⟩,
   ⟨some 57, .ext (.t 53) 0, none⟩,
   ⟨some 58, .ext (.t 53) 1, none⟩,
   ⟨some 13, .mov (.t 57), none⟩,
   ⟨some 14, .mov (.t 58), none⟩] (some [2, 3, 4, 7, 8, 9, 10, 11, 12, 13, 14]))
 (.seq
 (.ops false [
   ⟨some 60, .load 4 true (.t 3) [], none⟩,
   ⟨some 61, .mov (.t 2), none⟩,
   ⟨some 62, .call 52 [.t 60, .t 61], none⟩,
   ⟨some 59, .mov (.t 62), none⟩,
   ⟨some 63, .ext (.t 59) 0, none⟩,
   ⟨some 64, .ext (.t 59) 1, none⟩,
   ⟨some 15, .mov (.t 63), none⟩,
   ⟨some 16, .mov (.t 64), none⟩] (some [2, 3, 4, 7, 8, 9, 10, 11, 12, 13, 14, 15, 16]))
 (.seq
 (.ops false [
   ⟨some 66, .load 4 true (.t 7) [], none⟩,
   ⟨some 67, .fld 1 (.t 4), none⟩,
   ⟨some 68, .load 1 false (.t 67) [], none⟩,
   ⟨some 69, .call 53 [.t 66, .t 68], none⟩,
   ⟨some 65, .mov (.t 69), none⟩,
   ⟨some 70, .ext (.t 65) 0, none⟩,
   ⟨some 71, .ext (.t 65) 1, none⟩,
   ⟨some 17, .alloc 17 [.int 0, .int 0], none⟩,
   ⟨none, .store 2 (.t 17) (.t 70) (some 17), none⟩,
   ⟨some 18, .mov (.t 71), none⟩] (some [2, 3, 4, 7, 8, 9, 10, 11, 12, 13, 14, 15, 16, 17, 18]))
 (.seq
 (.ops false [
   ⟨some 73, .load 4 true (.t 3) [], none⟩,
   ⟨some 74, .fld 1 (.t 4), none⟩,
   ⟨some 75, .load 1 false (.t 74) [], none⟩,
   ⟨some 76, .call 54 [.t 73, .t 75], none⟩,
   ⟨some 72, .mov (.t 76), none⟩,
   ⟨some 77, .ext (.t 72) 0, none⟩,
   ⟨some 78, .ext (.t 72) 1, none⟩,
   ⟨some 19, .alloc 19 [.int 0, .int 0], none⟩,
   ⟨none, .store 2 (.t 19) (.t 77) (some 19), none⟩,
   ⟨some 20, .mov (.t 78), none⟩] (some [2, 3, 7, 8, 9, 10, 11, 12, 13, 14, 15, 16, 17, 18, 19, 20]))
 (.seq
 (.ops false [
   ⟨some 79, .mov (.t 9), none⟩,
   ⟨some 80, .mov (.t 11), none⟩,
   ⟨some 81, .call 27 [.t 79, .t 80], none⟩,
   ⟨some 82, .mov (.t 81), none⟩,
   ⟨some 83, .mov (.t 10), some (82, true)⟩,
   ⟨some 84, .mov (.t 12), some (82, true)⟩,
   ⟨some 85, .bin .eql (.t 83) (.t 84), some (82, true)⟩,
   ⟨some 86, .pick (.t 82) (.t 85) (.k (.bool false)), none⟩,
   ⟨some 87, .mov (.t 86), none⟩,
   ⟨some 88, .mov (.t 13), some (87, true)⟩,
   ⟨some 89, .mov (.t 15), some (87, true)⟩,
   ⟨some 90, .bin .eql (.t 88) (.t 89), some (87, true)⟩,
   ⟨some 91, .pick (.t 87) (.t 90) (.k (.bool false)), none⟩,
   ⟨some 92, .mov (.t 91), none⟩,
   ⟨some 93, .mov (.t 14), some (92, true)⟩,
   ⟨some 94, .mov (.t 16), some (92, true)⟩,
   ⟨some 95, .bin .eql (.t 93) (.t 94), some (92, true)⟩,
   ⟨some 96, .pick (.t 92) (.t 95) (.k (.bool false)), none⟩,
   ⟨some 97, .mov (.t 96), none⟩,
   ⟨some 98, .load 2 true (.t 17) [], some (97, true)⟩,
   ⟨some 99, .load 2 true (.t 19) [], some (97, true)⟩,
   ⟨some 100, .bin (.seq 2) (.t 98) (.t 99), some (97, true)⟩,
   ⟨some 101, .pick (.t 97) (.t 100) (.k (.bool false)), none⟩,
   ⟨some 102, .mov (.t 101), none⟩,
   ⟨some 103, .mov (.t 18), some (102, true)⟩,
   ⟨some 104, .mov (.t 20), some (102, true)⟩,
   ⟨some 105, .bin .eql (.t 103) (.t 104), some (102, true)⟩,
   ⟨some 106, .pick (.t 102) (.t 105) (.k (.bool false)), none⟩,
   ⟨some 107, .mov (.t 106), none⟩,
   ⟨some 108, .load 4 true (.t 7) [], some (107, true)⟩,
   ⟨some 109, .load 4 true (.t 3) [], some (107, true)⟩,
   ⟨some 110, .call 21 [.t 108, .t 109], some (107, true)⟩,
   ⟨some 111, .pick (.t 107) (.t 110) (.k (.bool false)), none⟩,
   ⟨some 112, .mov (.t 111), none⟩,
   ⟨some 113, .mov (.t 8), some (112, true)⟩,
   ⟨some 114, .mov (.t 2), some (112, true)⟩,
   ⟨some 115, .call 27 [.t 113, .t 114], some (112, true)⟩,
   ⟨some 116, .pick (.t 112) (.t 115) (.k (.bool false)), none⟩,
   ⟨some 117, .mov (.t 116), none⟩,
   ⟨some 118, .call 17 [], some (117, true)⟩,
   ⟨some 119, .pick (.t 117) (.t 118) (.k (.bool false)), none⟩,
   ⟨some 6, .mov (.t 119), none⟩] (some [6]))
 .ret)))))))))))

theorem m12 : fmatch Try.prog Try.f12 3 [.tmp 6] v12 = true := by kernel_rfl

/-- steening/steeninglaw11.KnotsSure -/
def v13 : VC :=
 (.seq
 (.ops false [
   ⟨some 2, .box 2 4 (.t 0), none⟩,
   ⟨some 3, .box 3 3 (.t 1), none⟩,
   ⟨some 4, .mov (.k (.bool false)), none⟩] (some [2, 3]))
 (.seq
 (.seq
 (.ops false [
   ⟨some 18, .load 4 true (.t 2) [], none⟩,
   ⟨some 19, .call 16 [.t 18], none⟩] (some [2, 3, 19]))
 (.cond (.t 19)
  (.seq
  (.ops false [
    ⟨some 20, .call 17 [], none⟩,
    ⟨some 4, .mov (.t 20), none⟩] (some [4]))
  .ret)
  .skip))
 (.seq
 (.ops false [
   ⟨some 21, .load 4 true (.t 2) [], none⟩,
   ⟨some 22, .call 18 [.t 21], none⟩,
   ⟨some 5, .alloc 5 [.int 0, .int 0, .sl 1 [] .full, .sl 2 [] .full], none⟩,
   ⟨none, .store 4 (.t 5) (.t 22) (some 5), none⟩] (some [2, 3, 5]))
 (.seq
 (.ops false [
   ⟨some 24, .load 4 true (.t 5) [], none⟩,
   ⟨some 25, .call 34 [.t 24], none⟩,
   ⟨some 23, .mov (.t 25), none⟩,
   ⟨some 26, .ext (.t 23) 0, none⟩,
   ⟨some 27, .ext (.t 23) 1, none⟩,
   ⟨some 6, .mov (.t 26), none⟩,
   ⟨some 7, .mov (.t 27), none⟩] (some [2, 3, 5, 6, 7]))
 (.seq
 (.ops false [
   ⟨some 29, .load 4 true (.t 2) [], none⟩,
   ⟨some 30, .call 55 [.t 29], none⟩,
   ⟨some 28, .mov (.t 30), none⟩,
   ⟨some 31, .ext (.t 28) 0, none⟩,
   ⟨some 32, .ext (.t 28) 1, none⟩,
   ⟨some 8, .mov (.t 31), none⟩,
   ⟨some 9, .mov (.t 32), none⟩] (some [2, 3, 5, 6, 7, 8, 9]))
 (.seq
 (.ops false [
   ⟨some 34, .load 4 true (.t 5) [], none⟩,
   ⟨some 35, .fld 1 (.t 3), none⟩,
   ⟨some 36, .load 1 false (.t 35) [], none⟩,
   ⟨some 37, .call 35 [.t 34, .t 36], none⟩,
   ⟨some 33, .mov (.t 37), none⟩,
   ⟨some 38, .ext (.t 33) 0, none⟩,
   ⟨some 39, .ext (.t 33) 1, none⟩,
   ⟨some 10, .alloc 10 [.int 0, .int 0], none⟩,
   ⟨none, .store 2 (.t 10) (.t 38) (some 10), none⟩,
   ⟨some 11, .mov (.t 39), none⟩] (some [2, 3, 5, 6, 7, 8, 9, 10, 11]))
 (.seq
 (.ops false [
   ⟨some 41, .load 4 true (.t 2) [], none⟩,
   ⟨some 42, .fld 1 (.t 3), none⟩,
   ⟨some 43, .load 1 false (.t 42) [], none⟩,
   ⟨some 44, .call 56 [.t 41, .t 43], none⟩,
   ⟨some 40, .mov (.t 44), none⟩,
   ⟨some 45, .ext (.t 40) 0, none⟩,
   ⟨some 46, .ext (.t 40) 1, none⟩,
   ⟨some 12, .alloc 12 [.int 0, .int 0], none⟩,
   ⟨none, .store 2 (.t 12) (.t 45) (some 12), none⟩,
   ⟨some 13, .mov (.t 46), none⟩] (some [2, 3, 5, 6, 7, 8, 9, 10, 11, 12, 13]))
 (.seq
 (.seq
 (.ops false [
   ⟨some 47, .mov (.t 6), none⟩,
   ⟨some 48, .mov (.t 8), none⟩,
   ⟨some 49, .bin .neq (.t 47) (.t 48), none⟩,
   ⟨some 50, .mov (.t 49), none⟩,
   ⟨some 51, .mov (.t 7), some (50, false)⟩,
   ⟨some 52, .mov (.t 9), some (50, false)⟩,
   ⟨some 53, .bin .neq (.t 51) (.t 52), some (50, false)⟩,
   ⟨some 54, .pick (.t 50) (.k (.bool true)) (.t 53), none⟩,
   ⟨some 55, .mov (.t 54), none⟩,
   ⟨some 56, .load 2 true (.t 10) [], some (55, false)⟩,
   ⟨some 57, .load 2 true (.t 12) [], some (55, false)⟩,
   ⟨some 58, .bin (.sne 2) (.t 56) (.t 57), some (55, false)⟩,
   ⟨some 59, .pick (.t 55) (.k (.bool true)) (.t 58), none⟩,
   ⟨some 60, .mov (.t 59), none⟩,
   ⟨some 61, .mov (.t 11), some (60, false)⟩,
   ⟨some 62, .mov (.t 13), some (60, false)⟩,
   ⟨some 63, .bin .neq (.t 61) (.t 62), some (60, false)⟩,
   ⟨some 64, .pick (.t 60) (.k (.bool true)) (.t 63), none⟩] (some [2, 3, 5, 10, 12, 64]))
 (.cond (.t 64)
  (.seq
  (.ops false [
    ⟨some 4, .mov (.k (.bool false)), none⟩] (some [4]))
  .ret)
  .skip))
 (.seq
 (.ops false [
   ⟨some 66, .load 4 true (.t 5) [], none⟩,
   ⟨some 67, .fld 1 (.t 3), none⟩,
   ⟨some 68, .load 1 false (.t 67) [], none⟩,
   ⟨some 69, .fld 2 (.t 3), none⟩,
   ⟨some 70, .load 1 false (.t 69) [], none⟩,
   ⟨some 71, .call 39 [.t 66, .t 68, .t 70], none⟩,
   ⟨some 65, .mov (.t 71), none⟩,
   ⟨some 72, .ext (.t 65) 0, none⟩,
   ⟨some 73, .ext (.t 65) 1, none⟩,
   ⟨none, .store 2 (.t 10) (.t 72) (some 10), none⟩,
   ⟨some 11, .mov (.t 73), none⟩] (some [2, 3, 5, 10, 11, 12]))
 (.seq
 (.ops false [
   ⟨some 75, .load 4 true (.t 2) [], none⟩,
   ⟨some 76, .fld 1 (.t 3), none⟩,
   ⟨some 77, .load 1 false (.t 76) [], none⟩,
   ⟨some 78, .fld 2 (.t 3), none⟩,
   ⟨some 79, .load 1 false (.t 78) [], none⟩,
   ⟨some 80, .call 57 [.t 75, .t 77, .t 79], none⟩,
   ⟨some 74, .mov (.t 80), none⟩,
   ⟨some 81, .ext (.t 74) 0, none⟩,
   ⟨some 82, .ext (.t 74) 1, none⟩,
   ⟨none, .store 2 (.t 12) (.t 81) (some 12), none⟩,
   ⟨some 13, .mov (.t 82), none⟩] (some [2, 3, 5, 10, 11, 12, 13]))
 (.seq
 (.ops false [
   ⟨some 84, .load 4 true (.t 5) [], none⟩,
   ⟨some 85, .fld 2 (.t 3), none⟩,
   ⟨some 86, .load 1 false (.t 85) [], none⟩,
   ⟨some 87, .call 47 [.t 84, .t 86], none⟩,
   ⟨some 83, .mov (.t 87), none⟩,
   ⟨some 88, .ext (.t 83) 0, none⟩,
   ⟨some 89, .ext (.t 83) 1, none⟩,
   ⟨some 14, .alloc 14 [.int 0, .int 0], none⟩,
   ⟨none, .store 2 (.t 14) (.t 88) (some 14), none⟩,
   ⟨some 15, .mov (.t 89), none⟩] (some [2, 3, 5, 10, 11, 12, 13, 14, 15]))
 (.seq
 (.ops false [
   ⟨some 91, .load 4 true (.t 2) [], none⟩,
   ⟨some 92, .fld 2 (.t 3), none⟩,
   ⟨some 93, .load 1 false (.t 92) [], none⟩,
   ⟨some 94, .call 58 [.t 91, .t 93], none⟩,
   ⟨some 90, .mov (.t 94), none⟩,
   ⟨some 95, .ext (.t 90) 0, none⟩,
   ⟨some 96, .ext (.t 90) 1, none⟩,
   ⟨some 16, .alloc 16 [.int 0, .int 0], none⟩,
   ⟨none, .store 2 (.t 16) (.t 95) (some 16), none⟩,
   ⟨some 17, .mov (.t 96), none⟩] (some [2, 5, 10, 11, 12, 13, 14, 15, 16, 17]))
 (.seq
 (.ops false [
   ⟨some 97, .load 2 true (.t 10) [], none⟩,
   ⟨some 98, .load 2 true (.t 12) [], none⟩,
   ⟨some 99, .bin (.seq 2) (.t 97) (.t 98), none⟩,
   ⟨some 100, .mov (.t 99), none⟩,
   ⟨some 101, .mov (.t 11), some (100, true)⟩,
   ⟨some 102, .mov (.t 13), some (100, true)⟩,
   ⟨some 103, .bin .eql (.t 101) (.t 102), some (100, true)⟩,
   ⟨some 104, .pick (.t 100) (.t 103) (.k (.bool false)), none⟩,
   ⟨some 105, .mov (.t 104), none⟩,
   ⟨some 106, .load 2 true (.t 14) [], some (105, true)⟩,
   ⟨some 107, .load 2 true (.t 16) [], some (105, true)⟩,
   ⟨some 108, .bin (.seq 2) (.t 106) (.t 107), some (105, true)⟩,
   ⟨some 109, .pick (.t 105) (.t 108) (.k (.bool false)), none⟩,
   ⟨some 110, .mov (.t 109), none⟩,
   ⟨some 111, .mov (.t 15), some (110, true)⟩,
   ⟨some 112, .mov (.t 17), some (110, true)⟩,
   ⟨some 113, .bin .eql (.t 111) (.t 112), some (110, true)⟩,
   ⟨some 114, .pick (.t 110) (.t 113) (.k (.bool false)), none⟩,
   ⟨some 115, .mov (.t 114), none⟩,
   ⟨some 116, .load 4 true (.t 5) [], some (115, true)⟩,
   ⟨some 117, .load 4 true (.t 2) [], some (115, true)⟩,
   ⟨some 118, .call 21 [.t 116, .t 117], some (115, true)⟩,
   ⟨some 119, .pick (.t 115) (.t 118) (.k (.bool false)), none⟩,
   ⟨some 120, .mov (.t 119), none⟩,
   ⟨some 121, .call 17 [], some (120, true)⟩,
   ⟨some 122, .pick (.t 120) (.t 121) (.k (.bool false)), none⟩,
   ⟨some 4, .mov (.t 122), none⟩] (some [4]))
 .ret)))))))))))))

theorem m13 : fmatch Try.prog Try.f13 2 [.tmp 4] v13 = true := by kernel_rfl

/-- steening/steeninglaw11.KnotsRight -/
def v14 : VC :=
 (.seq
 (.ops false [
   ⟨some 2, .box 2 4 (.t 0), none⟩,
   ⟨some 4, .mov (.k (.bool false)), none⟩] (some [1, 2]))
 (.seq
 (.seq
 (.ops false [
   ⟨some 13, .load 4 true (.t 2) [], none⟩,
   ⟨some 14, .call 48 [.t 13], none⟩,
   ⟨some 15, .mov (.t 14), none⟩,
   ⟨some 16, .mov (.t 1), some (15, false)⟩,
   ⟨some 17, .len (.t 16), some (15, false)⟩,
   ⟨some 18, .bin .gtr (.t 17) (.k (.int 40)), some (15, false)⟩,
   ⟨some 19, .pick (.t 15) (.k (.bool true)) (.t 18), none⟩] (some [1, 2, 19]))
 (.cond (.t 19)
  (.seq
  (.ops false [
    ⟨some 20, .call 17 [], none⟩,
    ⟨some 4, .mov (.t 20), none⟩] (some [4]))
  .ret)
  .skip))
 (.seq
 (.ops false [
   ⟨some 5, .nils 5 1, none⟩] (some [1, 2, 5]))
 (.seq
 (.seq
 (.ops false [
   ⟨some 6, .mov (.k (.int 0)), none⟩] (some [1, 2, 5, 6]))
 (.block 0
  (.loop
   (.seq
   (.seq
   (.ops false [
     ⟨some 21, .mov (.t 6), none⟩,
     ⟨some 22, .mov (.t 1), none⟩,
     ⟨some 23, .len (.t 22), none⟩,
     ⟨some 24, .bin .lss (.t 21) (.t 23), none⟩] (some [1, 2, 5, 6, 24]))
   (.cond (.t 24)
    .skip
    (.exit 0)))
   (.seq
   (.block 1
    (.seq
    (.seq
    (.ops false [
      ⟨some 27, .mov (.t 1), none⟩,
      ⟨some 28, .mov (.t 6), none⟩,
      ⟨some 29, .idx 1 (.t 27) (.t 28), none⟩,
      ⟨some 30, .load 1 false (.t 29) [], none⟩,
      ⟨some 31, .len (.t 30), none⟩,
      ⟨some 32, .bin .gtr (.t 31) (.k (.int 40)), none⟩] (some [1, 2, 5, 6, 32]))
    (.cond (.t 32)
     (.seq
     (.ops false [
       ⟨some 33, .call 17 [], none⟩,
       ⟨some 4, .mov (.t 33), none⟩] (some [4]))
     .ret)
     .skip))
    (.ops false [
      ⟨some 34, .mov (.t 5), none⟩,
      ⟨some 35, .bslice 1 [], none⟩,
      ⟨some 36, .mov (.t 1), none⟩,
      ⟨some 37, .mov (.t 6), none⟩,
      ⟨some 38, .idx 1 (.t 36) (.t 37), none⟩,
      ⟨some 39, .load 1 false (.t 38) [], none⟩,
      ⟨some 40, .app 40 1 8 (.t 35) (.t 39), none⟩,
      ⟨some 41, .bslice 1 [.t 40], none⟩,
      ⟨some 42, .app 42 1 24 (.t 34) (.t 41), none⟩,
      ⟨some 5, .mov (.t 42), none⟩] (some [1, 2, 5, 6]))))
   (.ops false [
     ⟨some 25, .mov (.t 6), none⟩,
     ⟨some 26, .bin .add (.t 25) (.k (.int 1)), none⟩,
     ⟨some 6, .mov (.t 26), none⟩] (some [1, 2, 5, 6])))))))
 (.seq
 (.ops false [
   ⟨some 43, .load 4 true (.t 2) [], none⟩,
   ⟨some 44, .call 18 [.t 43], none⟩,
   ⟨some 7, .alloc 7 [.int 0, .int 0, .sl 1 [] .full, .sl 2 [] .full], none⟩,
   ⟨none, .store 4 (.t 7) (.t 44) (some 7), none⟩] (some [1, 2, 5, 7]))
 (.seq
 (.ops false [
   ⟨some 46, .load 4 true (.t 7) [], none⟩,
   ⟨some 47, .mov (.t 5), none⟩,
   ⟨some 48, .call 59 [.t 46, .t 47], none⟩,
   ⟨some 45, .mov (.t 48), none⟩,
   ⟨some 49, .ext (.t 45) 0, none⟩,
   ⟨some 50, .ext (.t 45) 1, none⟩,
   ⟨some 8, .mov (.t 49), none⟩,
   ⟨some 9, .mov (.t 50), none⟩] (some [1, 2, 5, 7, 8, 9]))
 (.seq
 (.ops false [
   ⟨some 52, .load 4 true (.t 2) [], none⟩,
   ⟨some 53, .mov (.t 1), none⟩,
   ⟨some 54, .call 60 [.t 52, .t 53], none⟩,
   ⟨some 51, .mov (.t 54), none⟩,
   ⟨some 55, .ext (.t 51) 0, none⟩,
   ⟨some 56, .ext (.t 51) 1, none⟩,
   ⟨some 10, .mov (.t 55), none⟩,
   ⟨some 11, .mov (.t 56), none⟩] (some [1, 2, 5, 7, 8, 9, 10, 11]))
 (.seq
 (.seq
 (.ops false [
   ⟨some 12, .mov (.k (.int 0)), none⟩] (some [1, 2, 5, 7, 8, 9, 10, 11, 12]))
 (.block 2
  (.loop
   (.seq
   (.seq
   (.ops false [
     ⟨some 57, .mov (.t 12), none⟩,
     ⟨some 58, .mov (.t 1), none⟩,
     ⟨some 59, .len (.t 58), none⟩,
     ⟨some 60, .bin .lss (.t 57) (.t 59), none⟩] (some [1, 2, 5, 7, 8, 9, 10, 11, 12, 60]))
   (.cond (.t 60)
    .skip
    (.exit 2)))
   (.seq
   (.block 3
    (.seq
    (.ops true [
      ⟨some 63, .mov (.t 5), none⟩,
      ⟨some 64, .mov (.t 12), none⟩,
      ⟨some 65, .idx 1 (.t 63) (.t 64), none⟩,
      ⟨some 66, .load 1 false (.t 65) [], none⟩,
      ⟨some 67, .mov (.t 1), none⟩,
      ⟨some 68, .mov (.t 12), none⟩,
      ⟨some 69, .idx 1 (.t 67) (.t 68), none⟩,
      ⟨some 70, .load 1 false (.t 69) [], none⟩,
      ⟨some 71, .call 27 [.t 66, .t 70], none⟩,
      ⟨some 72, .not (.t 71), none⟩] (some [1, 2, 5, 7, 8, 9, 10, 11, 12, 72]))
    (.cond (.t 72)
     (.seq
     (.ops false [
       ⟨some 4, .mov (.k (.bool false)), none⟩] (some [4]))
     .ret)
     .skip)))
   (.ops false [
     ⟨some 61, .mov (.t 12), none⟩,
     ⟨some 62, .bin .add (.t 61) (.k (.int 1)), none⟩,
     ⟨some 12, .mov (.t 62), none⟩] (some [1, 2, 5, 7, 8, 9, 10, 11, 12])))))))
 (.seq
 (.ops false [
   ⟨some 73, .mov (.t 8), none⟩,
   ⟨some 74, .mov (.t 10), none⟩,
   ⟨some 75, .bin .beq (.t 73) (.t 74), none⟩,
   ⟨some 76, .mov (.t 75), none⟩,
   ⟨some 77, .mov (.t 9), some (76, true)⟩,
   ⟨some 78, .mov (.t 11), some (76, true)⟩,
   ⟨some 79, .bin .eql (.t 77) (.t 78), some (76, true)⟩,
   ⟨some 80, .pick (.t 76) (.t 79) (.k (.bool false)), none⟩,
   ⟨some 81, .mov (.t 80), none⟩,
   ⟨some 82, .load 4 true (.t 7) [], some (81, true)⟩,
   ⟨some 83, .load 4 true (.t 2) [], some (81, true)⟩,
   ⟨some 84, .call 21 [.t 82, .t 83], some (81, true)⟩,
   ⟨some 85, .pick (.t 81) (.t 84) (.k (.bool false)), none⟩,
   ⟨some 86, .mov (.t 85), none⟩,
   ⟨some 87, .call 17 [], some (86, true)⟩,
   ⟨some 88, .pick (.t 86) (.t 87) (.k (.bool false)), none⟩,
   ⟨some 4, .mov (.t 88), none⟩] (some [4]))
 .ret)))))))))

theorem m14 : fmatch Try.prog Try.f14 2 [.tmp 4] v14 = true := by kernel_rfl

/-- steening/steeninglaw11.KnotsEach -/
def v15 : VC :=
 (.seq
 (.ops false [
   ⟨some 2, .box 2 4 (.t 0), none⟩,
   ⟨some 4, .mov (.k (.bool false)), none⟩] (some [1, 2]))
 (.seq
 (.seq
 (.ops false [
   ⟨some 24, .load 4 true (.t 2) [], none⟩,
   ⟨some 25, .call 28 [.t 24], none⟩,
   ⟨some 26, .not (.t 25), none⟩,
   ⟨some 27, .mov (.t 26), none⟩,
   ⟨some 28, .mov (.t 1), some (27, false)⟩,
   ⟨some 29, .len (.t 28), some (27, false)⟩,
   ⟨some 30, .bin .gtr (.t 29) (.k (.int 40)), some (27, false)⟩,
   ⟨some 31, .pick (.t 27) (.k (.bool true)) (.t 30), none⟩,
   ⟨some 32, .mov (.t 31), none⟩,
   ⟨some 33, .load 4 true (.t 2) [], some (32, false)⟩,
   ⟨some 34, .mov (.t 1), some (32, false)⟩,
   ⟨some 35, .call 61 [.t 33, .t 34], some (32, false)⟩,
   ⟨some 36, .not (.t 35), some (32, false)⟩,
   ⟨some 37, .pick (.t 32) (.k (.bool true)) (.t 36), none⟩] (some [1, 2, 37]))
 (.cond (.t 37)
  (.seq
  (.ops false [
    ⟨some 38, .call 17 [], none⟩,
    ⟨some 4, .mov (.t 38), none⟩] (some [4]))
  .ret)
  .skip))
 (.seq
 (.ops false [
   ⟨some 5, .nils 5 1, none⟩] (some [1, 2, 5]))
 (.seq
 (.ops false [
   ⟨some 6, .nils 6 1, none⟩] (some [1, 2, 5, 6]))
 (.seq
 (.seq
 (.ops false [
   ⟨some 7, .mov (.k (.int 0)), none⟩] (some [1, 2, 5, 6, 7]))
 (.block 0
  (.loop
   (.seq
   (.seq
   (.ops false [
     ⟨some 39, .mov (.t 7), none⟩,
     ⟨some 40, .mov (.t 1), none⟩,
     ⟨some 41, .len (.t 40), none⟩,
     ⟨some 42, .bin .lss (.t 39) (.t 41), none⟩] (some [1, 2, 5, 6, 7, 42]))
   (.cond (.t 42)
    .skip
    (.exit 0)))
   (.seq
   (.block 1
    (.seq
    (.ops false [
      ⟨some 45, .mov (.t 5), none⟩,
      ⟨some 46, .bslice 1 [], none⟩,
      ⟨some 47, .mov (.t 1), none⟩,
      ⟨some 48, .mov (.t 7), none⟩,
      ⟨some 49, .idx 1 (.t 47) (.t 48), none⟩,
      ⟨some 50, .load 1 false (.t 49) [], none⟩,
      ⟨some 51, .app 51 1 8 (.t 46) (.t 50), none⟩,
      ⟨some 52, .bslice 1 [.t 51], none⟩,
      ⟨some 53, .app 53 1 24 (.t 45) (.t 52), none⟩,
      ⟨some 5, .mov (.t 53), none⟩] (some [1, 2, 5, 6, 7]))
    (.ops true [
      ⟨some 54, .mov (.t 6), none⟩,
      ⟨some 55, .load 4 true (.t 2) [], none⟩,
      ⟨some 56, .mov (.t 1), none⟩,
      ⟨some 57, .mov (.t 7), none⟩,
      ⟨some 58, .idx 1 (.t 56) (.t 57), none⟩,
      ⟨some 59, .load 1 false (.t 58) [], none⟩,
      ⟨some 60, .call 46 [.t 55, .t 59], none⟩,
      ⟨some 61, .bslice 1 [.t 60], none⟩,
      ⟨some 62, .app 62 1 8 (.t 54) (.t 61), none⟩,
      ⟨some 6, .mov (.t 62), none⟩] (some [1, 2, 5, 6, 7]))))
   (.ops false [
     ⟨some 43, .mov (.t 7), none⟩,
     ⟨some 44, .bin .add (.t 43) (.k (.int 1)), none⟩,
     ⟨some 7, .mov (.t 44), none⟩] (some [1, 2, 5, 6, 7])))))))
 (.seq
 (.ops false [
   ⟨some 64, .load 4 true (.t 2) [], none⟩,
   ⟨some 65, .mov (.t 5), none⟩,
   ⟨some 66, .call 59 [.t 64, .t 65], none⟩,
   ⟨some 63, .mov (.t 66), none⟩,
   ⟨some 67, .ext (.t 63) 0, none⟩,
   ⟨some 68, .ext (.t 63) 1, none⟩,
   ⟨some 8, .mov (.t 67), none⟩,
   ⟨some 9, .mov (.t 68), none⟩] (some [1, 2, 6, 8, 9]))
 (.seq
 (.ops false [
   ⟨some 70, .load 4 true (.t 2) [], none⟩,
   ⟨some 71, .call 34 [.t 70], none⟩,
   ⟨some 69, .mov (.t 71), none⟩,
   ⟨some 72, .ext (.t 69) 0, none⟩,
   ⟨some 73, .ext (.t 69) 1, none⟩,
   ⟨some 10, .mov (.t 72), none⟩,
   ⟨some 11, .mov (.t 73), none⟩] (some [1, 2, 6, 8, 9, 10, 11]))
 (.seq
 (.seq
 (.ops false [
   ⟨some 74, .mov (.t 9), none⟩,
   ⟨some 75, .bin .neq (.t 74) (.k (.int 0)), none⟩,
   ⟨some 76, .mov (.t 75), none⟩,
   ⟨some 77, .mov (.t 8), some (76, false)⟩,
   ⟨some 78, .not (.t 77), some (76, false)⟩,
   ⟨some 79, .pick (.t 76) (.k (.bool true)) (.t 78), none⟩,
   ⟨some 80, .mov (.t 79), none⟩,
   ⟨some 81, .mov (.t 11), some (80, false)⟩,
   ⟨some 82, .bin .neq (.t 81) (.k (.int 0)), some (80, false)⟩,
   ⟨some 83, .pick (.t 80) (.k (.bool true)) (.t 82), none⟩,
   ⟨some 84, .mov (.t 83), none⟩,
   ⟨some 85, .mov (.t 10), some (84, false)⟩,
   ⟨some 86, .bin .lss (.t 85) (.k (.int 1)), some (84, false)⟩,
   ⟨some 87, .pick (.t 84) (.k (.bool true)) (.t 86), none⟩] (some [1, 2, 6, 87]))
 (.cond (.t 87)
  (.seq
  (.ops false [
    ⟨some 4, .mov (.k (.bool false)), none⟩] (some [4]))
  .ret)
  .skip))
 (.seq
 (.seq
 (.ops false [
   ⟨some 12, .mov (.k (.int 0)), none⟩] (some [1, 2, 6, 12]))
 (.block 2
  (.loop
   (.seq
   (.seq
   (.ops false [
     ⟨some 88, .mov (.t 12), none⟩,
     ⟨some 89, .mov (.t 1), none⟩,
     ⟨some 90, .len (.t 89), none⟩,
     ⟨some 91, .bin .lss (.t 88) (.t 90), none⟩] (some [1, 2, 6, 12, 91]))
   (.cond (.t 91)
    .skip
    (.exit 2)))
   (.seq
   (.block 3
    (.seq
    (.ops false [
      ⟨some 95, .load 4 true (.t 2) [], none⟩,
      ⟨some 96, .mov (.t 12), none⟩,
      ⟨some 97, .call 35 [.t 95, .t 96], none⟩,
      ⟨some 94, .mov (.t 97), none⟩,
      ⟨some 98, .ext (.t 94) 0, none⟩,
      ⟨some 99, .ext (.t 94) 1, none⟩,
      ⟨some 13, .alloc 13 [.int 0, .int 0], none⟩,
      ⟨none, .store 2 (.t 13) (.t 98) (some 13), none⟩,
      ⟨some 14, .mov (.t 99), none⟩] (some [1, 2, 6, 12, 13, 14]))
    (.seq
    (.ops false [
      ⟨some 101, .load 4 true (.t 2) [], none⟩,
      ⟨some 102, .mov (.t 12), none⟩,
      ⟨some 103, .call 53 [.t 101, .t 102], none⟩,
      ⟨some 100, .mov (.t 103), none⟩,
      ⟨some 104, .ext (.t 100) 0, none⟩,
      ⟨some 105, .ext (.t 100) 1, none⟩,
      ⟨some 15, .alloc 15 [.int 0, .int 0], none⟩,
      ⟨none, .store 2 (.t 15) (.t 104) (some 15), none⟩,
      ⟨some 16, .mov (.t 105), none⟩] (some [1, 2, 6, 12, 13, 14, 15, 16]))
    (.seq
    (.seq
    (.ops true [
      ⟨some 106, .mov (.t 14), none⟩,
      ⟨some 107, .bin .neq (.t 106) (.k (.int 0)), none⟩,
      ⟨some 108, .mov (.t 107), none⟩,
      ⟨some 109, .mov (.t 16), some (108, false)⟩,
      ⟨some 110, .bin .neq (.t 109) (.k (.int 0)), some (108, false)⟩,
      ⟨some 111, .pick (.t 108) (.k (.bool true)) (.t 110), none⟩,
      ⟨some 112, .mov (.t 111), none⟩,
      ⟨some 113, .mov (.t 6), some (112, false)⟩,
      ⟨some 114, .mov (.t 12), some (112, false)⟩,
      ⟨some 115, .idx 1 (.t 113) (.t 114), some (112, false)⟩,
      ⟨some 116, .load 1 false (.t 115) [], some (112, false)⟩,
      ⟨some 117, .fld 0 (.t 13), some (112, false)⟩,
      ⟨some 118, .load 1 false (.t 117) [], some (112, false)⟩,
      ⟨some 119, .bin .lss (.t 116) (.t 118), some (112, false)⟩,
      ⟨some 120, .pick (.t 112) (.k (.bool true)) (.t 119), none⟩,
      ⟨some 121, .mov (.t 120), none⟩,
      ⟨some 122, .mov (.t 6), some (121, false)⟩,
      ⟨some 123, .mov (.t 12), some (121, false)⟩,
      ⟨some 124, .idx 1 (.t 122) (.t 123), some (121, false)⟩,
      ⟨some 125, .load 1 false (.t 124) [], some (121, false)⟩,
      ⟨some 126, .fld 1 (.t 13), some (121, false)⟩,
      ⟨some 127, .load 1 false (.t 126) [], some (121, false)⟩,
      ⟨some 128, .bin .gtr (.t 125) (.t 127), some (121, false)⟩,
      ⟨some 129, .pick (.t 121) (.k (.bool true)) (.t 128), none⟩,
      ⟨some 130, .mov (.t 129), none⟩,
      ⟨some 131, .load 2 true (.t 13) [], some (130, false)⟩,
      ⟨some 132, .load 2 true (.t 15) [], some (130, false)⟩,
      ⟨some 133, .call 31 [.t 131, .t 132], some (130, false)⟩,
      ⟨some 134, .not (.t 133), some (130, false)⟩,
      ⟨some 135, .pick (.t 130) (.k (.bool true)) (.t 134), none⟩] (some [1, 2, 6, 12, 135]))
    (.cond (.t 135)
     (.seq
     (.ops false [
       ⟨some 4, .mov (.k (.bool false)), none⟩] (some [4]))
     .ret)
     .skip))
    (.seq
    (.ops false [
      ⟨some 17, .mov (.k (.int 0)), none⟩] (some [1, 2, 6, 12, 17]))
    (.block 4
     (.loop
      (.seq
      (.seq
      (.ops false [
        ⟨some 136, .mov (.t 17), none⟩,
        ⟨some 137, .fld 1 (.t 2), none⟩,
        ⟨some 138, .load 1 false (.t 137) [], none⟩,
        ⟨some 139, .bin .lss (.t 136) (.t 138), none⟩] (some [1, 2, 6, 12, 17, 139]))
      (.cond (.t 139)
       .skip
       (.exit 4)))
      (.seq
      (.block 5
       (.seq
       (.ops false [
         ⟨some 143, .load 4 true (.t 2) [], none⟩,
         ⟨some 144, .mov (.t 12), none⟩,
         ⟨some 145, .mov (.t 17), none⟩,
         ⟨some 146, .call 39 [.t 143, .t 144, .t 145], none⟩,
         ⟨some 142, .mov (.t 146), none⟩,
         ⟨some 147, .ext (.t 142) 0, none⟩,
         ⟨some 148, .ext (.t 142) 1, none⟩,
         ⟨some 18, .alloc 18 [.int 0, .int 0], none⟩,
         ⟨none, .store 2 (.t 18) (.t 147) (some 18), none⟩,
         ⟨some 19, .mov (.t 148), none⟩] (some [1, 2, 6, 12, 17, 18, 19]))
       (.seq
       (.ops true [
         ⟨some 149, .mov (.t 19), none⟩,
         ⟨some 150, .bin .neq (.t 149) (.k (.int 0)), none⟩,
         ⟨some 151, .mov (.t 150), none⟩,
         ⟨some 152, .mov (.t 1), some (151, false)⟩,
         ⟨some 153, .mov (.t 12), some (151, false)⟩,
         ⟨some 154, .idx 1 (.t 152) (.t 153), some (151, false)⟩,
         ⟨some 155, .load 1 false (.t 154) [], some (151, false)⟩,
         ⟨some 156, .mov (.t 17), some (151, false)⟩,
         ⟨some 157, .idx 1 (.t 155) (.t 156), some (151, false)⟩,
         ⟨some 158, .load 1 false (.t 157) [], some (151, false)⟩,
         ⟨some 159, .fld 0 (.t 18), some (151, false)⟩,
         ⟨some 160, .load 1 false (.t 159) [], some (151, false)⟩,
         ⟨some 161, .bin .lss (.t 158) (.t 160), some (151, false)⟩,
         ⟨some 162, .pick (.t 151) (.k (.bool true)) (.t 161), none⟩,
         ⟨some 163, .mov (.t 162), none⟩,
         ⟨some 164, .mov (.t 1), some (163, false)⟩,
         ⟨some 165, .mov (.t 12), some (163, false)⟩,
         ⟨some 166, .idx 1 (.t 164) (.t 165), some (163, false)⟩,
         ⟨some 167, .load 1 false (.t 166) [], some (163, false)⟩,
         ⟨some 168, .mov (.t 17), some (163, false)⟩,
         ⟨some 169, .idx 1 (.t 167) (.t 168), some (163, false)⟩,
         ⟨some 170, .load 1 false (.t 169) [], some (163, false)⟩,
         ⟨some 171, .fld 1 (.t 18), some (163, false)⟩,
         ⟨some 172, .load 1 false (.t 171) [], some (163, false)⟩,
         ⟨some 173, .bin .gtr (.t 170) (.t 172), some (163, false)⟩,
         ⟨some 174, .pick (.t 163) (.k (.bool true)) (.t 173), none⟩,
         ⟨some 175, .mov (.t 174), none⟩,
         ⟨some 176, .load 2 true (.t 18) [], some (175, false)⟩,
         ⟨some 177, .load 4 true (.t 2) [], some (175, false)⟩,
         ⟨some 178, .mov (.t 12), some (175, false)⟩,
         ⟨some 179, .call 32 [.t 177, .t 178], some (175, false)⟩,
         ⟨some 180, .mov (.t 17), some (175, false)⟩,
         ⟨some 181, .idx 2 (.t 179) (.t 180), some (175, false)⟩,
         ⟨some 182, .load 2 true (.t 181) [], some (175, false)⟩,
         ⟨some 183, .call 31 [.t 176, .t 182], some (175, false)⟩,
         ⟨some 184, .not (.t 183), some (175, false)⟩,
         ⟨some 185, .pick (.t 175) (.k (.bool true)) (.t 184), none⟩] (some [1, 2, 6, 12, 17, 185]))
       (.cond (.t 185)
        (.seq
        (.ops false [
          ⟨some 4, .mov (.k (.bool false)), none⟩] (some [4]))
        .ret)
        .skip))))
      (.ops false [
        ⟨some 140, .mov (.t 17), none⟩,
        ⟨some 141, .bin .add (.t 140) (.k (.int 1)), none⟩,
        ⟨some 17, .mov (.t 141), none⟩] (some [1, 2, 6, 12, 17])))))))))))
   (.ops false [
     ⟨some 92, .mov (.t 12), none⟩,
     ⟨some 93, .bin .add (.t 92) (.k (.int 1)), none⟩,
     ⟨some 12, .mov (.t 93), none⟩] (some [1, 2, 6, 12])))))))
 (.seq
 (.seq
 (.ops false [
   ⟨some 20, .mov (.k (.int 0)), none⟩] (some [2, 6, 20]))
 (.block 6
  (.loop
   (.seq
   (.seq
   (.ops false [
     ⟨some 186, .mov (.t 20), none⟩,
     ⟨some 187, .fld 1 (.t 2), none⟩,
     ⟨some 188, .load 1 false (.t 187) [], none⟩,
     ⟨some 189, .bin .lss (.t 186) (.t 188), none⟩] (some [2, 6, 20, 189]))
   (.cond (.t 189)
    .skip
    (.exit 6)))
   (.seq
   (.block 7
    (.seq
    (.ops false [
      ⟨some 193, .load 4 true (.t 2) [], none⟩,
      ⟨some 194, .mov (.t 20), none⟩,
      ⟨some 195, .call 47 [.t 193, .t 194], none⟩,
      ⟨some 192, .mov (.t 195), none⟩,
      ⟨some 196, .ext (.t 192) 0, none⟩,
      ⟨some 197, .ext (.t 192) 1, none⟩,
      ⟨some 21, .alloc 21 [.int 0, .int 0], none⟩,
      ⟨none, .store 2 (.t 21) (.t 196) (some 21), none⟩,
      ⟨some 22, .mov (.t 197), none⟩] (some [2, 6, 20, 21, 22]))
    (.seq
    (.ops false [
      ⟨some 198, .load 4 true (.t 2) [], none⟩,
      ⟨some 199, .mov (.t 6), none⟩,
      ⟨some 200, .mov (.t 20), none⟩,
      ⟨some 201, .call 62 [.t 198, .t 199, .t 200], none⟩,
      ⟨some 23, .mov (.t 201), none⟩] (some [2, 6, 20, 21, 22, 23]))
    (.seq
    (.ops false [
      ⟨some 202, .mov (.t 22), none⟩,
      ⟨some 203, .bin .neq (.t 202) (.k (.int 0)), none⟩,
      ⟨some 204, .mov (.t 203), none⟩,
      ⟨some 205, .mov (.t 23), some (204, false)⟩,
      ⟨some 206, .fld 0 (.t 21), some (204, false)⟩,
      ⟨some 207, .load 1 false (.t 206) [], some (204, false)⟩,
      ⟨some 208, .bin .lss (.t 205) (.t 207), some (204, false)⟩,
      ⟨some 209, .pick (.t 204) (.k (.bool true)) (.t 208), none⟩,
      ⟨some 210, .mov (.t 209), none⟩,
      ⟨some 211, .mov (.t 23), some (210, false)⟩,
      ⟨some 212, .fld 1 (.t 21), some (210, false)⟩,
      ⟨some 213, .load 1 false (.t 212) [], some (210, false)⟩,
      ⟨some 214, .bin .gtr (.t 211) (.t 213), some (210, false)⟩,
      ⟨some 215, .pick (.t 210) (.k (.bool true)) (.t 214), none⟩] (some [2, 6, 20, 215]))
    (.cond (.t 215)
     (.seq
     (.ops false [
       ⟨some 4, .mov (.k (.bool false)), none⟩] (some [4]))
     .ret)
     .skip)))))
   (.ops false [
     ⟨some 190, .mov (.t 20), none⟩,
     ⟨some 191, .bin .add (.t 190) (.k (.int 1)), none⟩,
     ⟨some 20, .mov (.t 191), none⟩] (some [2, 6, 20])))))))
 (.seq
 (.ops false [
   ⟨some 216, .call 17 [], none⟩,
   ⟨some 4, .mov (.t 216), none⟩] (some [4]))
 .ret)))))))))))

theorem m15 : fmatch Try.prog Try.f15 2 [.tmp 4] v15 = true := by kernel_rfl

/-- steening/steeninglaw11.Far -/
def v16 : VC :=
 (.seq
 (.ops false [
   ⟨some 1, .box 1 4 (.t 0), none⟩,
   ⟨some 2, .mov (.k (.bool false)), none⟩] (some [1]))
 (.seq
 (.seq
 (.ops false [
   ⟨some 6, .load 4 true (.t 1) [], none⟩,
   ⟨some 7, .call 48 [.t 6], none⟩] (some [1, 7]))
 (.cond (.t 7)
  (.seq
  (.ops false [
    ⟨some 2, .mov (.k (.bool true)), none⟩] (some [2]))
  .ret)
  .skip))
 (.seq
 (.seq
 (.ops false [
   ⟨some 8, .load 4 true (.t 1) [], none⟩,
   ⟨some 9, .call 50 [.t 8], none⟩,
   ⟨some 10, .bin .neq (.t 9) (.k (.int 0)), none⟩] (some [1, 10]))
 (.cond (.t 10)
  (.seq
  (.ops false [
    ⟨some 2, .mov (.k (.bool false)), none⟩] (some [2]))
  .ret)
  .skip))
 (.seq
 (.ops false [
   ⟨some 3, .mov (.k (.int 1)), none⟩] (some [1, 3]))
 (.seq
 (.seq
 (.ops false [
   ⟨some 4, .mov (.k (.int 0)), none⟩] (some [1, 3, 4]))
 (.block 0
  (.loop
   (.seq
   (.seq
   (.ops false [
     ⟨some 11, .mov (.t 4), none⟩,
     ⟨some 12, .fld 2 (.t 1), none⟩,
     ⟨some 13, .load 1 false (.t 12) [], none⟩,
     ⟨some 14, .len (.t 13), none⟩,
     ⟨some 15, .bin .lss (.t 11) (.t 14), none⟩] (some [1, 3, 4, 15]))
   (.cond (.t 15)
    .skip
    (.exit 0)))
   (.seq
   (.block 1
    (.seq
    (.ops false [
      ⟨some 5, .mov (.k (.int 0)), none⟩] (some [1, 3, 4, 5]))
    (.block 2
     (.loop
      (.seq
      (.seq
      (.ops false [
        ⟨some 18, .mov (.t 5), none⟩,
        ⟨some 19, .fld 2 (.t 1), none⟩,
        ⟨some 20, .load 1 false (.t 19) [], none⟩,
        ⟨some 21, .mov (.t 4), none⟩,
        ⟨some 22, .idx 1 (.t 20) (.t 21), none⟩,
        ⟨some 23, .load 1 false (.t 22) [], none⟩,
        ⟨some 24, .len (.t 23), none⟩,
        ⟨some 25, .bin .lss (.t 18) (.t 24), none⟩] (some [1, 3, 4, 5, 25]))
      (.cond (.t 25)
       .skip
       (.exit 2)))
      (.seq
      (.block 3
       (.seq
       (.ops true [
         ⟨some 28, .mov (.t 3), none⟩,
         ⟨some 29, .fld 2 (.t 1), none⟩,
         ⟨some 30, .load 1 false (.t 29) [], none⟩,
         ⟨some 31, .mov (.t 4), none⟩,
         ⟨some 32, .idx 1 (.t 30) (.t 31), none⟩,
         ⟨some 33, .load 1 false (.t 32) [], none⟩,
         ⟨some 34, .mov (.t 5), none⟩,
         ⟨some 35, .idx 2 (.t 33) (.t 34), none⟩,
         ⟨some 36, .fld 1 (.t 35), none⟩,
         ⟨some 37, .load 1 false (.t 36) [], none⟩,
         ⟨some 38, .fld 2 (.t 1), none⟩,
         ⟨some 39, .load 1 false (.t 38) [], none⟩,
         ⟨some 40, .mov (.t 4), none⟩,
         ⟨some 41, .idx 1 (.t 39) (.t 40), none⟩,
         ⟨some 42, .load 1 false (.t 41) [], none⟩,
         ⟨some 43, .mov (.t 5), none⟩,
         ⟨some 44, .idx 2 (.t 42) (.t 43), none⟩,
         ⟨some 45, .fld 0 (.t 44), none⟩,
         ⟨some 46, .load 1 false (.t 45) [], none⟩,
         ⟨some 47, .bin .sub (.t 37) (.t 46), none⟩,
         ⟨some 48, .bin .add (.t 47) (.k (.int 1)), none⟩,
         ⟨some 49, .bin .mul (.t 28) (.t 48), none⟩,
         ⟨some 3, .mov (.t 49), none⟩] (some [1, 3, 4, 5]))
       (.seq
       (.ops false [
         ⟨some 50, .mov (.t 3), none⟩,
         ⟨some 51, .bin .gtr (.t 50) (.k (.int 400)), none⟩] (some [1, 3, 4, 5, 51]))
       (.cond (.t 51)
        (.seq
        (.ops false [
          ⟨some 2, .mov (.k (.bool true)), none⟩] (some [2]))
        .ret)
        .skip))))
      (.ops false [
        ⟨some 26, .mov (.t 5), none⟩,
        ⟨some 27, .bin .add (.t 26) (.k (.int 1)), none⟩,
        ⟨some 5, .mov (.t 27), none⟩] (some [1, 3, 4, 5]))))))))
   (.ops false [
     ⟨some 16, .mov (.t 4), none⟩,
     ⟨some 17, .bin .add (.t 16) (.k (.int 1)), none⟩,
     ⟨some 4, .mov (.t 17), none⟩] (some [1, 3, 4])))))))
 (.seq
 (.ops false [
   ⟨some 52, .load 4 true (.t 1) [], none⟩,
   ⟨some 53, .call 41 [.t 52], none⟩,
   ⟨some 54, .bin .gtr (.t 53) (.k (.int 1000)), none⟩,
   ⟨some 2, .mov (.t 54), none⟩] (some [2]))
 .ret))))))

theorem m16 : fmatch Try.prog Try.f16 1 [.tmp 2] v16 = true := by kernel_rfl

/-- steening/steeninglaw11.works -/
def v17 : VC :=
 (.seq
 (.ops false [
   ⟨some 0, .mov (.k (.bool false)), none⟩] (some []))
 (.seq
 (.ops false [
   ⟨some 17, .call 63 [], none⟩,
   ⟨some 16, .mov (.t 17), none⟩,
   ⟨some 18, .ext (.t 16) 0, none⟩,
   ⟨some 19, .ext (.t 16) 1, none⟩,
   ⟨some 1, .alloc 1 [.int 0, .int 0, .sl 1 [] .full, .sl 2 [] .full], none⟩,
   ⟨some 2, .alloc 2 [.int 0, .int 0, .sl 1 [] .full, .sl 2 [] .full], none⟩,
   ⟨none, .store 4 (.t 1) (.t 18) (some 1), none⟩,
   ⟨none, .store 4 (.t 2) (.t 19) (some 2), none⟩] (some [1, 2]))
 (.seq
 (.ops false [
   ⟨some 21, .load 4 true (.t 1) [], none⟩,
   ⟨some 22, .call 42 [.t 21, .k (.int 13)], none⟩,
   ⟨some 20, .mov (.t 22), none⟩,
   ⟨some 23, .ext (.t 20) 0, none⟩,
   ⟨some 24, .ext (.t 20) 1, none⟩,
   ⟨some 3, .mov (.t 23), none⟩,
   ⟨some 4, .mov (.t 24), none⟩] (some [1, 2, 3, 4]))
 (.seq
 (.ops false [
   ⟨some 26, .load 4 true (.t 1) [], none⟩,
   ⟨some 27, .call 34 [.t 26], none⟩,
   ⟨some 25, .mov (.t 27), none⟩,
   ⟨some 28, .ext (.t 25) 0, none⟩,
   ⟨some 29, .ext (.t 25) 1, none⟩,
   ⟨some 5, .mov (.t 28), none⟩,
   ⟨some 6, .mov (.t 29), none⟩] (some [1, 2, 3, 4, 5, 6]))
 (.seq
 (.ops false [
   ⟨some 31, .load 4 true (.t 1) [], none⟩,
   ⟨some 32, .call 35 [.t 31, .k (.int 1)], none⟩,
   ⟨some 30, .mov (.t 32), none⟩,
   ⟨some 33, .ext (.t 30) 0, none⟩,
   ⟨some 34, .ext (.t 30) 1, none⟩,
   ⟨some 7, .alloc 7 [.int 0, .int 0], none⟩,
   ⟨none, .store 2 (.t 7) (.t 33) (some 7), none⟩,
   ⟨some 8, .mov (.t 34), none⟩] (some [1, 2, 3, 4, 5, 6, 7, 8]))
 (.seq
 (.ops false [
   ⟨some 36, .load 4 true (.t 1) [], none⟩,
   ⟨some 37, .call 19 [.t 36], none⟩,
   ⟨some 35, .mov (.t 37), none⟩,
   ⟨some 38, .ext (.t 35) 0, none⟩,
   ⟨some 39, .ext (.t 35) 1, none⟩,
   ⟨some 40, .ext (.t 35) 2, none⟩,
   ⟨some 9, .mov (.t 38), none⟩,
   ⟨some 10, .mov (.t 39), none⟩,
   ⟨some 11, .mov (.t 40), none⟩] (some [2, 3, 4, 5, 6, 7, 8, 9, 10, 11]))
 (.seq
 (.ops false [
   ⟨some 42, .load 4 true (.t 2) [], none⟩,
   ⟨some 43, .call 23 [.t 42], none⟩,
   ⟨some 41, .mov (.t 43), none⟩,
   ⟨some 44, .ext (.t 41) 0, none⟩,
   ⟨some 45, .ext (.t 41) 1, none⟩,
   ⟨some 12, .mov (.t 44), none⟩,
   ⟨some 13, .mov (.t 45), none⟩] (some [2, 3, 4, 5, 6, 7, 8, 9, 10, 11, 12, 13]))
 (.seq
 (.ops false [
   ⟨some 47, .load 4 true (.t 2) [], none⟩,
   ⟨some 48, .call 25 [.t 47], none⟩,
   ⟨some 46, .mov (.t 48), none⟩,
   ⟨some 49, .ext (.t 46) 0, none⟩,
   ⟨some 50, .ext (.t 46) 1, none⟩,
   ⟨some 14, .mov (.t 49), none⟩,
   ⟨some 15, .mov (.t 50), none⟩] (some [3, 4, 5, 6, 7, 8, 9, 10, 11, 12, 13, 14, 15]))
 (.seq
 (.ops false [
   ⟨some 51, .mov (.t 4), none⟩,
   ⟨some 52, .bin .eql (.t 51) (.k (.int 0)), none⟩,
   ⟨some 53, .mov (.t 52), none⟩,
   ⟨some 54, .mov (.t 6), some (53, true)⟩,
   ⟨some 55, .bin .eql (.t 54) (.k (.int 0)), some (53, true)⟩,
   ⟨some 56, .pick (.t 53) (.t 55) (.k (.bool false)), none⟩,
   ⟨some 57, .mov (.t 56), none⟩,
   ⟨some 58, .mov (.t 8), some (57, true)⟩,
   ⟨some 59, .bin .eql (.t 58) (.k (.int 0)), some (57, true)⟩,
   ⟨some 60, .pick (.t 57) (.t 59) (.k (.bool false)), none⟩,
   ⟨some 61, .mov (.t 60), none⟩,
   ⟨some 62, .mov (.t 11), some (61, true)⟩,
   ⟨some 63, .bin .eql (.t 62) (.k (.int 0)), some (61, true)⟩,
   ⟨some 64, .pick (.t 61) (.t 63) (.k (.bool false)), none⟩,
   ⟨some 65, .mov (.t 64), none⟩,
   ⟨some 66, .mov (.t 13), some (65, true)⟩,
   ⟨some 67, .bin .eql (.t 66) (.k (.int 0)), some (65, true)⟩,
   ⟨some 68, .pick (.t 65) (.t 67) (.k (.bool false)), none⟩,
   ⟨some 69, .mov (.t 68), none⟩,
   ⟨some 70, .mov (.t 15), some (69, true)⟩,
   ⟨some 71, .bin .eql (.t 70) (.k (.int 0)), some (69, true)⟩,
   ⟨some 72, .pick (.t 69) (.t 71) (.k (.bool false)), none⟩,
   ⟨some 73, .mov (.t 72), none⟩,
   ⟨some 74, .mov (.t 3), some (73, true)⟩,
   ⟨some 75, .bslice 1 [.k (.int 1), .k (.int 3)], some (73, true)⟩,
   ⟨some 76, .call 27 [.t 74, .t 75], some (73, true)⟩,
   ⟨some 77, .pick (.t 73) (.t 76) (.k (.bool false)), none⟩,
   ⟨some 78, .mov (.t 77), none⟩,
   ⟨some 79, .mov (.t 5), some (78, true)⟩,
   ⟨some 80, .bin .eql (.t 79) (.k (.int 2)), some (78, true)⟩,
   ⟨some 81, .pick (.t 78) (.t 80) (.k (.bool false)), none⟩,
   ⟨some 82, .mov (.t 81), none⟩,
   ⟨some 83, .load 2 true (.t 7) [], some (82, true)⟩,
   ⟨some 84, .build [.int 0, .int 0] [(0, 1, .k (.int 15)), (1, 1, .k (.int 15))], some (82, true)⟩,
   ⟨some 85, .bin (.seq 2) (.t 83) (.t 84), some (82, true)⟩,
   ⟨some 86, .pick (.t 82) (.t 85) (.k (.bool false)), none⟩,
   ⟨some 87, .mov (.t 86), none⟩,
   ⟨some 88, .mov (.t 9), some (87, true)⟩,
   ⟨some 89, .bin .eql (.t 88) (.k (.int 0)), some (87, true)⟩,
   ⟨some 90, .pick (.t 87) (.t 89) (.k (.bool false)), none⟩,
   ⟨some 91, .mov (.t 90), none⟩,
   ⟨some 92, .mov (.t 10), some (91, true)⟩,
   ⟨some 93, .bin .eql (.t 92) (.k (.int 1)), some (91, true)⟩,
   ⟨some 94, .pick (.t 91) (.t 93) (.k (.bool false)), none⟩,
   ⟨some 95, .mov (.t 94), none⟩,
   ⟨some 96, .mov (.t 12), some (95, true)⟩,
   ⟨some 97, .bin .eql (.t 96) (.k (.int 2)), some (95, true)⟩,
   ⟨some 98, .pick (.t 95) (.t 97) (.k (.bool false)), none⟩,
   ⟨some 99, .mov (.t 98), none⟩,
   ⟨some 100, .mov (.t 14), some (99, true)⟩,
   ⟨some 101, .bslice 1 [.k (.int 0), .k (.int 1), .k (.int 2)], some (99, true)⟩,
   ⟨some 102, .call 27 [.t 100, .t 101], some (99, true)⟩,
   ⟨some 103, .pick (.t 99) (.t 102) (.k (.bool false)), none⟩,
   ⟨some 0, .mov (.t 103), none⟩] (some [0]))
 .ret)))))))))

theorem m17 : fmatch Try.prog Try.f17 0 [.tmp 0] v17 = true := by kernel_rfl

/-- steening/steeningref11.Copy -/
def v18 : VC :=
 (.seq
 (.ops false [
   ⟨some 1, .box 1 4 (.t 0), none⟩,
   ⟨some 2, .alloc 2 [.int 0, .int 0, .sl 1 [] .full, .sl 2 [] .full], none⟩] (some [1, 2]))
 (.seq
 (.ops true [
   ⟨some 5, .fld 0 (.t 1), none⟩,
   ⟨some 6, .load 1 false (.t 5) [3], none⟩,
   ⟨some 7, .fld 1 (.t 1), none⟩,
   ⟨some 8, .load 1 false (.t 7) [3], none⟩,
   ⟨some 9, .bslice 2 [], none⟩,
   ⟨some 10, .fld 3 (.t 1), none⟩,
   ⟨some 11, .load 1 false (.t 10) [3], none⟩,
   ⟨some 12, .app 12 2 16 (.t 9) (.t 11), none⟩,
   ⟨some 13, .build [.int 0, .int 0, .sl 1 [] .full, .sl 2 [] .full] [(0, 1, .t 6), (1, 1, .t 8), (3, 1, .t 12)], none⟩,
   ⟨some 3, .alloc 3 [.int 0, .int 0, .sl 1 [] .full, .sl 2 [] .full], none⟩,
   ⟨none, .store 4 (.t 3) (.t 13) (some 3), none⟩] (some [1, 2, 3]))
 (.seq
 (.seq
 (.ops false [
   ⟨some 4, .mov (.k (.int 0)), none⟩] (some [1, 2, 3, 4]))
 (.block 0
  (.loop
   (.seq
   (.seq
   (.ops false [
     ⟨some 14, .mov (.t 4), none⟩,
     ⟨some 15, .fld 2 (.t 1), none⟩,
     ⟨some 16, .load 1 false (.t 15) [], none⟩,
     ⟨some 17, .len (.t 16), none⟩,
     ⟨some 18, .bin .lss (.t 14) (.t 17), none⟩] (some [1, 2, 3, 4, 18]))
   (.cond (.t 18)
    .skip
    (.exit 0)))
   (.seq
   (.block 1
    (.ops true [
      ⟨some 21, .fld 2 (.t 3), none⟩,
      ⟨some 22, .load 1 false (.t 21) [], none⟩,
      ⟨some 23, .bslice 2 [], none⟩,
      ⟨some 24, .fld 2 (.t 1), none⟩,
      ⟨some 25, .load 1 false (.t 24) [], none⟩,
      ⟨some 26, .mov (.t 4), none⟩,
      ⟨some 27, .idx 1 (.t 25) (.t 26), none⟩,
      ⟨some 28, .load 1 false (.t 27) [], none⟩,
      ⟨some 29, .app 29 2 16 (.t 23) (.t 28), none⟩,
      ⟨some 30, .bslice 1 [.t 29], none⟩,
      ⟨some 31, .app 31 1 24 (.t 22) (.t 30), none⟩,
      ⟨some 32, .fld 2 (.t 3), none⟩,
      ⟨none, .store 1 (.t 32) (.t 31) (some 3), none⟩] (some [1, 2, 3, 4])))
   (.ops false [
     ⟨some 19, .mov (.t 4), none⟩,
     ⟨some 20, .bin .add (.t 19) (.k (.int 1)), none⟩,
     ⟨some 4, .mov (.t 20), none⟩] (some [1, 2, 3, 4])))))))
 (.seq
 (.ops false [
   ⟨some 33, .load 4 true (.t 3) [], none⟩,
   ⟨none, .store 4 (.t 2) (.t 33) (some 2), none⟩] (some [2]))
 .ret))))

theorem m18 : fmatch Try.prog Try.f18 1 [.cell 2 25] v18 = true := by kernel_rfl

/-- steening/knots.Ask -/
def v19 : VC :=
 (.seq
 (.ops false [
   ⟨some 1, .box 1 4 (.t 0), none⟩,
   ⟨some 2, .mov (.k (.int 0)), none⟩,
   ⟨some 3, .mov (.k (.int 0)), none⟩,
   ⟨some 4, .mov (.k (.int 0)), none⟩] (some [1, 2, 3]))
 (.seq
 (.seq
 (.ops false [
   ⟨some 13, .load 4 true (.t 1) [], none⟩,
   ⟨some 14, .call 49 [.t 13], none⟩,
   ⟨some 5, .mov (.t 14), none⟩] (some [1, 2, 3, 5]))
 (.seq
 (.ops false [
   ⟨some 15, .mov (.t 5), none⟩,
   ⟨some 16, .bin .neq (.t 15) (.k (.int 0)), none⟩] (some [1, 2, 3, 5, 16]))
 (.cond (.t 16)
  (.seq
  (.ops false [
    ⟨some 17, .mov (.t 5), none⟩,
    ⟨some 2, .mov (.k (.int 0)), none⟩,
    ⟨some 3, .mov (.k (.int 0)), none⟩,
    ⟨some 4, .mov (.t 17), none⟩] (some [2, 3, 4]))
  .ret)
  .skip)))
 (.seq
 (.ops false [
   ⟨some 18, .load 4 true (.t 1) [], none⟩,
   ⟨some 19, .call 64 [.t 18], none⟩,
   ⟨some 6, .alloc 6 [.int 0, .int 0, .sl 1 [] .full, .sl 2 [] .full, .und, .und], none⟩,
   ⟨none, .store 6 (.t 6) (.t 19) (some 6), none⟩] (some [1, 2, 3, 6]))
 (.seq
 (.seq
 (.ops false [
   ⟨some 20, .load 6 true (.t 6) [], none⟩,
   ⟨some 21, .call 65 [.t 20], none⟩,
   ⟨some 22, .bin .lss (.t 21) (.k (.int 2)), none⟩] (some [1, 2, 3, 6, 22]))
 (.cond (.t 22)
  (.seq
  (.ops false [
    ⟨some 2, .mov (.k (.int 0)), none⟩,
    ⟨some 3, .mov (.k (.int 0)), none⟩,
    ⟨some 4, .mov (.k (.int 3)), none⟩] (some [2, 3, 4]))
  .ret)
  .skip))
 (.seq
 (.ops false [
   ⟨some 7, .mov (.k (.int (-1))), none⟩] (some [1, 2, 3, 6, 7]))
 (.seq
 (.seq
 (.ops false [
   ⟨some 23, .load 4 true (.t 1) [], none⟩,
   ⟨some 24, .call 66 [.t 23], none⟩,
   ⟨some 25, .len (.t 24), none⟩,
   ⟨some 26, .mov (.k (.int 0)), none⟩] (some [1, 2, 3, 6, 7, 25, 26]))
 (.block 0
  (.loop
   (.seq
   (.ops false [
     ⟨some 27, .bin .lss (.t 26) (.t 25), none⟩] (some [1, 2, 3, 6, 7, 25, 26, 27]))
   (.seq
   (.cond (.t 27)
    .skip
    (.exit 0))
   (.seq
   (.block 1
    (.seq
    (.ops false [
      ⟨some 28, .mov (.t 26), none⟩,
      ⟨some 8, .mov (.t 28), none⟩] (some [1, 2, 3, 6, 7, 8, 25, 26]))
    (.seq
    (.ops false [
      ⟨some 29, .fld 1 (.t 1), none⟩,
      ⟨some 30, .load 1 false (.t 29) [], none⟩,
      ⟨some 31, .mov (.k (.int 0)), none⟩] (some [1, 2, 3, 6, 7, 8, 25, 26, 30, 31]))
    (.block 2
     (.loop
      (.seq
      (.ops false [
        ⟨some 32, .bin .lss (.t 31) (.t 30), none⟩] (some [1, 2, 3, 6, 7, 8, 25, 26, 30, 31, 32]))
      (.seq
      (.cond (.t 32)
       .skip
       (.exit 2))
      (.seq
      (.block 3
       (.seq
       (.ops false [
         ⟨some 33, .mov (.t 31), none⟩,
         ⟨some 9, .mov (.t 33), none⟩] (some [1, 2, 3, 6, 7, 8, 9, 25, 26, 30, 31]))
       (.seq
       (.ops false [
         ⟨some 10, .alloc 10 [.int 0], none⟩,
         ⟨none, .store 1 (.t 10) (.k (.int 0)) (some 10), none⟩] (some [1, 2, 3, 6, 7, 8, 9, 10, 25, 26, 30, 31]))
       (.seq
       (.seq
       (.ops false [
         ⟨some 34, .load 6 true (.t 6) [], none⟩,
         ⟨some 35, .mov (.t 8), none⟩,
         ⟨some 36, .mov (.t 9), none⟩,
         ⟨some 37, .call 67 [.t 34, .t 35, .t 36], none⟩] (some [1, 2, 3, 6, 7, 8, 9, 10, 25, 26, 30, 31, 37]))
       (.block 4
        (.range (.t 37) [38, 39]
         (.ops false [
           ⟨some 12, .mov (.t 39), none⟩] (some [10, 12]))
         (.block 5
          (.ops false [
            ⟨some 40, .load 1 false (.t 10) [], none⟩,
            ⟨some 41, .mov (.t 12), none⟩,
            ⟨some 42, .max (.t 40) (.t 41), none⟩,
            ⟨none, .store 1 (.t 10) (.t 42) (some 10), none⟩] (some []))))))
       (.seq
       (.ops false [
         ⟨some 43, .mov (.t 7), none⟩,
         ⟨some 44, .bin .lss (.t 43) (.k (.int 0)), none⟩,
         ⟨some 45, .mov (.t 44), none⟩,
         ⟨some 46, .load 1 false (.t 10) [], some (45, false)⟩,
         ⟨some 47, .mov (.t 7), some (45, false)⟩,
         ⟨some 48, .bin .lss (.t 46) (.t 47), some (45, false)⟩,
         ⟨some 49, .pick (.t 45) (.k (.bool true)) (.t 48), none⟩] (some [1, 2, 3, 6, 7, 8, 9, 10, 25, 26, 30, 31, 49]))
       (.cond (.t 49)
        (.ops true [
          ⟨some 50, .mov (.t 8), none⟩,
          ⟨some 51, .mov (.t 9), none⟩,
          ⟨some 52, .load 1 false (.t 10) [], none⟩,
          ⟨some 2, .mov (.t 50), none⟩,
          ⟨some 3, .mov (.t 51), none⟩,
          ⟨some 7, .mov (.t 52), none⟩] (some [1, 2, 3, 6, 7, 8, 25, 26, 30, 31]))
        .skip))))))
      (.ops false [
        ⟨some 53, .bin .add (.t 31) (.k (.int 1)), none⟩,
        ⟨some 31, .mov (.t 53), none⟩] (some [1, 2, 3, 6, 7, 8, 25, 26, 30, 31]))))))))))
   (.ops false [
     ⟨some 54, .bin .add (.t 26) (.k (.int 1)), none⟩,
     ⟨some 26, .mov (.t 54), none⟩] (some [1, 2, 3, 6, 7, 25, 26]))))))))
 (.seq
 (.ops false [
   ⟨some 55, .mov (.t 2), none⟩,
   ⟨some 56, .mov (.t 3), none⟩,
   ⟨some 2, .mov (.t 55), none⟩,
   ⟨some 3, .mov (.t 56), none⟩,
   ⟨some 4, .mov (.k (.int 0)), none⟩] (some [2, 3, 4]))
 .ret)))))))

theorem m19 : fmatch Try.prog Try.f19 1 [.tmp 2, .tmp 3, .tmp 4] v19 = true := by kernel_rfl

/-- steening/steeningref11.Ask -/
def v20 : VC :=
 (.seq
 (.ops false [
   ⟨some 1, .box 1 4 (.t 0), none⟩,
   ⟨some 2, .mov (.k (.int 0)), none⟩,
   ⟨some 3, .mov (.k (.int 0)), none⟩,
   ⟨some 4, .mov (.k (.int 0)), none⟩] (some [1, 2, 3]))
 (.seq
 (.seq
 (.ops false [
   ⟨some 14, .load 4 true (.t 1) [], none⟩,
   ⟨some 15, .call 50 [.t 14], none⟩,
   ⟨some 5, .mov (.t 15), none⟩] (some [1, 2, 3, 5]))
 (.seq
 (.ops false [
   ⟨some 16, .mov (.t 5), none⟩,
   ⟨some 17, .bin .neq (.t 16) (.k (.int 0)), none⟩] (some [1, 2, 3, 5, 17]))
 (.cond (.t 17)
  (.seq
  (.ops false [
    ⟨some 18, .mov (.t 5), none⟩,
    ⟨some 2, .mov (.k (.int 0)), none⟩,
    ⟨some 3, .mov (.k (.int 0)), none⟩,
    ⟨some 4, .mov (.t 18), none⟩] (some [2, 3, 4]))
  .ret)
  .skip)))
 (.seq
 (.ops false [
   ⟨some 19, .load 4 true (.t 1) [], none⟩,
   ⟨some 20, .call 68 [.t 19, .k (.sl 1 [] .full), .k (.bool false)], none⟩,
   ⟨some 6, .mov (.t 20), none⟩] (some [1, 2, 3, 6]))
 (.seq
 (.seq
 (.ops false [
   ⟨some 21, .mov (.t 6), none⟩,
   ⟨some 22, .len (.t 21), none⟩,
   ⟨some 23, .bin .leq (.t 22) (.k (.int 1)), none⟩] (some [1, 2, 3, 6, 23]))
 (.cond (.t 23)
  (.seq
  (.ops false [
    ⟨some 2, .mov (.k (.int 0)), none⟩,
    ⟨some 3, .mov (.k (.int 0)), none⟩,
    ⟨some 4, .mov (.k (.int 3)), none⟩] (some [2, 3, 4]))
  .ret)
  .skip))
 (.seq
 (.ops false [
   ⟨some 24, .mov (.t 6), none⟩,
   ⟨some 25, .len (.t 24), none⟩,
   ⟨some 26, .bin .add (.t 25) (.k (.int 1)), none⟩,
   ⟨some 7, .mov (.t 26), none⟩] (some [1, 2, 3, 6, 7]))
 (.seq
 (.seq
 (.ops false [
   ⟨some 8, .mov (.k (.int 0)), none⟩] (some [1, 2, 3, 6, 7, 8]))
 (.block 0
  (.loop
   (.seq
   (.seq
   (.ops false [
     ⟨some 27, .mov (.t 8), none⟩,
     ⟨some 28, .fld 2 (.t 1), none⟩,
     ⟨some 29, .load 1 false (.t 28) [], none⟩,
     ⟨some 30, .len (.t 29), none⟩,
     ⟨some 31, .bin .leq (.t 27) (.t 30), none⟩] (some [1, 2, 3, 6, 7, 8, 31]))
   (.cond (.t 31)
    .skip
    (.exit 0)))
   (.seq
   (.block 1
    (.seq
    (.ops false [
      ⟨some 9, .mov (.k (.int 0)), none⟩] (some [1, 2, 3, 6, 7, 8, 9]))
    (.block 2
     (.loop
      (.seq
      (.seq
      (.ops false [
        ⟨some 34, .mov (.t 9), none⟩,
        ⟨some 35, .fld 1 (.t 1), none⟩,
        ⟨some 36, .load 1 false (.t 35) [], none⟩,
        ⟨some 37, .bin .lss (.t 34) (.t 36), none⟩] (some [1, 2, 3, 6, 7, 8, 9, 37]))
      (.cond (.t 37)
       .skip
       (.exit 2)))
      (.seq
      (.block 3
       (.seq
       (.ops false [
         ⟨some 40, .fld 0 (.t 1), none⟩,
         ⟨some 41, .load 1 false (.t 40) [], none⟩,
         ⟨some 42, .makes 42 1 8 false [.int 0] (.t 41), none⟩,
         ⟨some 10, .mov (.t 42), none⟩] (some [1, 2, 3, 6, 7, 8, 9, 10]))
       (.seq
       (.ops false [
         ⟨some 11, .mov (.k (.int 0)), none⟩] (some [1, 2, 3, 6, 7, 8, 9, 10, 11]))
       (.seq
       (.seq
       (.ops false [
         ⟨some 12, .mov (.k (.int 0)), none⟩] (some [1, 2, 3, 6, 7, 8, 9, 10, 11, 12]))
       (.block 4
        (.loop
         (.seq
         (.seq
         (.ops false [
           ⟨some 43, .mov (.t 12), none⟩,
           ⟨some 44, .mov (.t 6), none⟩,
           ⟨some 45, .len (.t 44), none⟩,
           ⟨some 46, .bin .lss (.t 43) (.t 45), none⟩] (some [1, 2, 3, 6, 7, 8, 9, 10, 11, 12, 46]))
         (.cond (.t 46)
          .skip
          (.exit 4)))
         (.seq
         (.block 5
          (.seq
          (.ops true [
            ⟨some 49, .load 4 true (.t 1) [], none⟩,
            ⟨some 50, .mov (.t 6), none⟩,
            ⟨some 51, .mov (.t 12), none⟩,
            ⟨some 52, .idx 1 (.t 50) (.t 51), none⟩,
            ⟨some 53, .load 1 false (.t 52) [], none⟩,
            ⟨some 54, .mov (.t 8), none⟩,
            ⟨some 55, .idx 1 (.t 53) (.t 54), none⟩,
            ⟨some 56, .load 1 false (.t 55) [], none⟩,
            ⟨some 57, .call 69 [.t 49, .t 56], none⟩,
            ⟨some 58, .mov (.t 9), none⟩,
            ⟨some 59, .idx 1 (.t 57) (.t 58), none⟩,
            ⟨some 60, .load 1 false (.t 59) [], none⟩,
            ⟨some 13, .mov (.t 60), none⟩] (some [1, 2, 3, 6, 7, 8, 9, 10, 11, 12, 13]))
          (.seq
          (.ops false [
            ⟨some 61, .mov (.t 10), none⟩,
            ⟨some 62, .mov (.t 13), none⟩,
            ⟨some 63, .idx 1 (.t 61) (.t 62), none⟩,
            ⟨some 64, .load 1 false (.t 63) [], none⟩,
            ⟨some 65, .bin .add (.t 64) (.k (.int 1)), none⟩,
            ⟨some 66, .idx 1 (.t 61) (.t 62), none⟩,
            ⟨none, .store 1 (.t 66) (.t 65) (some 42), none⟩] (some [1, 2, 3, 6, 7, 8, 9, 10, 11, 12, 13]))
          (.ops false [
            ⟨some 67, .mov (.t 11), none⟩,
            ⟨some 68, .mov (.t 10), none⟩,
            ⟨some 69, .mov (.t 13), none⟩,
            ⟨some 70, .idx 1 (.t 68) (.t 69), none⟩,
            ⟨some 71, .load 1 false (.t 70) [], none⟩,
            ⟨some 72, .max (.t 67) (.t 71), none⟩,
            ⟨some 11, .mov (.t 72), none⟩] (some [1, 2, 3, 6, 7, 8, 9, 10, 11, 12])))))
         (.ops false [
           ⟨some 47, .mov (.t 12), none⟩,
           ⟨some 48, .bin .add (.t 47) (.k (.int 1)), none⟩,
           ⟨some 12, .mov (.t 48), none⟩] (some [1, 2, 3, 6, 7, 8, 9, 10, 11, 12])))))))
       (.seq
       (.ops false [
         ⟨some 73, .mov (.t 11), none⟩,
         ⟨some 74, .mov (.t 7), none⟩,
         ⟨some 75, .bin .lss (.t 73) (.t 74), none⟩] (some [1, 2, 3, 6, 7, 8, 9, 11, 75]))
       (.cond (.t 75)
        (.ops false [
          ⟨some 76, .mov (.t 8), none⟩,
          ⟨some 77, .mov (.t 9), none⟩,
          ⟨some 78, .mov (.t 11), none⟩,
          ⟨some 2, .mov (.t 76), none⟩,
          ⟨some 3, .mov (.t 77), none⟩,
          ⟨some 7, .mov (.t 78), none⟩] (some [1, 2, 3, 6, 7, 8, 9]))
        .skip))))))
      (.ops false [
        ⟨some 38, .mov (.t 9), none⟩,
        ⟨some 39, .bin .add (.t 38) (.k (.int 1)), none⟩,
        ⟨some 9, .mov (.t 39), none⟩] (some [1, 2, 3, 6, 7, 8, 9]))))))))
   (.ops false [
     ⟨some 32, .mov (.t 8), none⟩,
     ⟨some 33, .bin .add (.t 32) (.k (.int 1)), none⟩,
     ⟨some 8, .mov (.t 33), none⟩] (some [1, 2, 3, 6, 7, 8])))))))
 (.seq
 (.ops false [
   ⟨some 79, .mov (.t 2), none⟩,
   ⟨some 80, .mov (.t 3), none⟩,
   ⟨some 2, .mov (.t 79), none⟩,
   ⟨some 3, .mov (.t 80), none⟩,
   ⟨some 4, .mov (.k (.int 0)), none⟩] (some [2, 3, 4]))
 .ret)))))))

theorem m20 : fmatch Try.prog Try.f20 1 [.tmp 2, .tmp 3, .tmp 4] v20 = true := by kernel_rfl

/-- steening/steeninglaw11.Same -/
def v21 : VC :=
 (.seq
 (.ops false [
   ⟨some 2, .box 2 4 (.t 0), none⟩,
   ⟨some 3, .box 3 4 (.t 1), none⟩,
   ⟨some 4, .mov (.k (.bool false)), none⟩] (some [2, 3]))
 (.seq
 (.seq
 (.ops false [
   ⟨some 6, .fld 0 (.t 2), none⟩,
   ⟨some 7, .load 1 false (.t 6) [], none⟩,
   ⟨some 8, .fld 0 (.t 3), none⟩,
   ⟨some 9, .load 1 false (.t 8) [], none⟩,
   ⟨some 10, .bin .neq (.t 7) (.t 9), none⟩,
   ⟨some 11, .mov (.t 10), none⟩,
   ⟨some 12, .fld 1 (.t 2), some (11, false)⟩,
   ⟨some 13, .load 1 false (.t 12) [], some (11, false)⟩,
   ⟨some 14, .fld 1 (.t 3), some (11, false)⟩,
   ⟨some 15, .load 1 false (.t 14) [], some (11, false)⟩,
   ⟨some 16, .bin .neq (.t 13) (.t 15), some (11, false)⟩,
   ⟨some 17, .pick (.t 11) (.k (.bool true)) (.t 16), none⟩,
   ⟨some 18, .mov (.t 17), none⟩,
   ⟨some 19, .fld 2 (.t 2), some (18, false)⟩,
   ⟨some 20, .load 1 false (.t 19) [], some (18, false)⟩,
   ⟨some 21, .len (.t 20), some (18, false)⟩,
   ⟨some 22, .fld 2 (.t 3), some (18, false)⟩,
   ⟨some 23, .load 1 false (.t 22) [], some (18, false)⟩,
   ⟨some 24, .len (.t 23), some (18, false)⟩,
   ⟨some 25, .bin .neq (.t 21) (.t 24), some (18, false)⟩,
   ⟨some 26, .pick (.t 18) (.k (.bool true)) (.t 25), none⟩,
   ⟨some 27, .mov (.t 26), none⟩,
   ⟨some 28, .fld 3 (.t 2), some (27, false)⟩,
   ⟨some 29, .load 1 false (.t 28) [], some (27, false)⟩,
   ⟨some 30, .fld 3 (.t 3), some (27, false)⟩,
   ⟨some 31, .load 1 false (.t 30) [], some (27, false)⟩,
   ⟨some 32, .call 70 [.t 29, .t 31], some (27, false)⟩,
   ⟨some 33, .not (.t 32), some (27, false)⟩,
   ⟨some 34, .pick (.t 27) (.k (.bool true)) (.t 33), none⟩] (some [2, 3, 34]))
 (.cond (.t 34)
  (.seq
  (.ops false [
    ⟨some 4, .mov (.k (.bool false)), none⟩] (some [4]))
  .ret)
  .skip))
 (.seq
 (.seq
 (.ops false [
   ⟨some 5, .mov (.k (.int 0)), none⟩] (some [2, 3, 5]))
 (.block 0
  (.loop
   (.seq
   (.seq
   (.ops false [
     ⟨some 35, .mov (.t 5), none⟩,
     ⟨some 36, .fld 2 (.t 2), none⟩,
     ⟨some 37, .load 1 false (.t 36) [], none⟩,
     ⟨some 38, .len (.t 37), none⟩,
     ⟨some 39, .bin .lss (.t 35) (.t 38), none⟩] (some [2, 3, 5, 39]))
   (.cond (.t 39)
    .skip
    (.exit 0)))
   (.seq
   (.block 1
    (.seq
    (.ops true [
      ⟨some 42, .fld 2 (.t 2), none⟩,
      ⟨some 43, .load 1 false (.t 42) [], none⟩,
      ⟨some 44, .mov (.t 5), none⟩,
      ⟨some 45, .idx 1 (.t 43) (.t 44), none⟩,
      ⟨some 46, .load 1 false (.t 45) [], none⟩,
      ⟨some 47, .fld 2 (.t 3), none⟩,
      ⟨some 48, .load 1 false (.t 47) [], none⟩,
      ⟨some 49, .mov (.t 5), none⟩,
      ⟨some 50, .idx 1 (.t 48) (.t 49), none⟩,
      ⟨some 51, .load 1 false (.t 50) [], none⟩,
      ⟨some 52, .call 70 [.t 46, .t 51], none⟩,
      ⟨some 53, .not (.t 52), none⟩] (some [2, 3, 5, 53]))
    (.cond (.t 53)
     (.seq
     (.ops false [
       ⟨some 4, .mov (.k (.bool false)), none⟩] (some [4]))
     .ret)
     .skip)))
   (.ops false [
     ⟨some 40, .mov (.t 5), none⟩,
     ⟨some 41, .bin .add (.t 40) (.k (.int 1)), none⟩,
     ⟨some 5, .mov (.t 41), none⟩] (some [2, 3, 5])))))))
 (.seq
 (.ops false [
   ⟨some 4, .mov (.k (.bool true)), none⟩] (some [4]))
 .ret))))

theorem m21 : fmatch Try.prog Try.f21 2 [.tmp 4] v21 = true := by kernel_rfl

/-- steening/steeninglaw11.Wide -/
def v22 : VC :=
 (.seq
 (.ops false [
   ⟨some 1, .box 1 4 (.t 0), none⟩,
   ⟨some 2, .mov (.k (.bool false)), none⟩] (some [1]))
 (.seq
 (.seq
 (.ops false [
   ⟨some 5, .load 4 true (.t 1) [], none⟩,
   ⟨some 6, .call 48 [.t 5], none⟩] (some [1, 6]))
 (.cond (.t 6)
  (.seq
  (.ops false [
    ⟨some 2, .mov (.k (.bool true)), none⟩] (some [2]))
  .ret)
  .skip))
 (.seq
 (.seq
 (.ops false [
   ⟨some 7, .load 4 true (.t 1) [], none⟩,
   ⟨some 8, .call 50 [.t 7], none⟩,
   ⟨some 9, .bin .neq (.t 8) (.k (.int 0)), none⟩] (some [1, 9]))
 (.cond (.t 9)
  (.seq
  (.ops false [
    ⟨some 2, .mov (.k (.bool false)), none⟩] (some [2]))
  .ret)
  .skip))
 (.seq
 (.ops false [
   ⟨some 3, .mov (.k (.int 1)), none⟩] (some [1, 3]))
 (.seq
 (.seq
 (.ops false [
   ⟨some 4, .mov (.k (.int 0)), none⟩] (some [1, 3, 4]))
 (.block 0
  (.loop
   (.seq
   (.seq
   (.ops false [
     ⟨some 10, .mov (.t 4), none⟩,
     ⟨some 11, .fld 2 (.t 1), none⟩,
     ⟨some 12, .load 1 false (.t 11) [], none⟩,
     ⟨some 13, .len (.t 12), none⟩,
     ⟨some 14, .max (.k (.int 1)) (.t 13), none⟩,
     ⟨some 15, .bin .lss (.t 10) (.t 14), none⟩] (some [1, 3, 4, 15]))
   (.cond (.t 15)
    .skip
    (.exit 0)))
   (.seq
   (.block 1
    (.seq
    (.ops false [
      ⟨some 18, .mov (.t 3), none⟩,
      ⟨some 19, .load 4 true (.t 1) [], none⟩,
      ⟨some 20, .call 41 [.t 19], none⟩,
      ⟨some 21, .bin .mul (.t 18) (.t 20), none⟩,
      ⟨some 3, .mov (.t 21), none⟩] (some [1, 3, 4]))
    (.seq
    (.ops false [
      ⟨some 22, .mov (.t 3), none⟩,
      ⟨some 23, .bin .gtr (.t 22) (.k (.int 1300)), none⟩] (some [1, 3, 4, 23]))
    (.cond (.t 23)
     (.seq
     (.ops false [
       ⟨some 2, .mov (.k (.bool true)), none⟩] (some [2]))
     .ret)
     .skip))))
   (.ops false [
     ⟨some 16, .mov (.t 4), none⟩,
     ⟨some 17, .bin .add (.t 16) (.k (.int 1)), none⟩,
     ⟨some 4, .mov (.t 17), none⟩] (some [1, 3, 4])))))))
 (.seq
 (.ops false [
   ⟨some 2, .mov (.k (.bool false)), none⟩] (some [2]))
 .ret))))))

theorem m22 : fmatch Try.prog Try.f22 1 [.tmp 2] v22 = true := by kernel_rfl

/-- steening/knots.Retie -/
def v23 : VC :=
 (.seq
 (.ops false [
   ⟨some 1, .box 1 4 (.t 0), none⟩,
   ⟨some 2, .mov (.k (.int 0)), none⟩,
   ⟨some 3, .mov (.k (.int 0)), none⟩] (some [1]))
 (.seq
 (.seq
 (.ops false [
   ⟨some 5, .load 4 true (.t 1) [], none⟩,
   ⟨some 6, .call 49 [.t 5], none⟩,
   ⟨some 4, .mov (.t 6), none⟩] (some [1, 4]))
 (.seq
 (.ops false [
   ⟨some 7, .mov (.t 4), none⟩,
   ⟨some 8, .bin .neq (.t 7) (.k (.int 0)), none⟩] (some [1, 4, 8]))
 (.cond (.t 8)
  (.seq
  (.ops false [
    ⟨some 9, .mov (.t 4), none⟩,
    ⟨some 2, .mov (.k (.int 0)), none⟩,
    ⟨some 3, .mov (.t 9), none⟩] (some [2, 3]))
  .ret)
  .skip)))
 (.seq
 (.ops false [
   ⟨some 10, .load 4 true (.t 1) [], none⟩,
   ⟨some 11, .call 64 [.t 10], none⟩,
   ⟨some 12, .call 71 [.t 11], none⟩,
   ⟨some 13, .fieldV 0 1 false (.t 12), none⟩,
   ⟨some 2, .mov (.t 13), none⟩,
   ⟨some 3, .mov (.k (.int 0)), none⟩] (some [2, 3]))
 .ret)))

theorem m23 : fmatch Try.prog Try.f23 1 [.tmp 2, .tmp 3] v23 = true := by kernel_rfl

/-- steening/steeningref11.Retie -/
def v24 : VC :=
 (.seq
 (.ops false [
   ⟨some 1, .box 1 4 (.t 0), none⟩,
   ⟨some 2, .mov (.k (.int 0)), none⟩,
   ⟨some 3, .mov (.k (.int 0)), none⟩] (some [1]))
 (.seq
 (.seq
 (.ops false [
   ⟨some 7, .load 4 true (.t 1) [], none⟩,
   ⟨some 8, .call 50 [.t 7], none⟩,
   ⟨some 4, .mov (.t 8), none⟩] (some [1, 4]))
 (.seq
 (.ops false [
   ⟨some 9, .mov (.t 4), none⟩,
   ⟨some 10, .bin .neq (.t 9) (.k (.int 0)), none⟩] (some [1, 4, 10]))
 (.cond (.t 10)
  (.seq
  (.ops false [
    ⟨some 11, .mov (.t 4), none⟩,
    ⟨some 2, .mov (.k (.int 0)), none⟩,
    ⟨some 3, .mov (.t 11), none⟩] (some [2, 3]))
  .ret)
  .skip)))
 (.seq
 (.ops false [
   ⟨some 13, .load 4 true (.t 1) [], none⟩,
   ⟨some 14, .call 72 [.t 13], none⟩,
   ⟨some 12, .mov (.t 14), none⟩,
   ⟨some 15, .ext (.t 12) 0, none⟩,
   ⟨some 16, .ext (.t 12) 1, none⟩,
   ⟨some 5, .mov (.t 15), none⟩,
   ⟨some 6, .mov (.t 16), none⟩] (some [6]))
 (.seq
 (.ops false [
   ⟨some 17, .mov (.t 6), none⟩,
   ⟨some 2, .mov (.t 17), none⟩,
   ⟨some 3, .mov (.k (.int 0)), none⟩] (some [2, 3]))
 .ret))))

theorem m24 : fmatch Try.prog Try.f24 1 [.tmp 2, .tmp 3] v24 = true := by kernel_rfl

/-- steening/knots.Blame -/
def v25 : VC :=
 (.seq
 (.ops false [
   ⟨some 1, .box 1 4 (.t 0), none⟩,
   ⟨some 2, .nils 2 1, none⟩,
   ⟨some 3, .mov (.k (.int 0)), none⟩] (some [1]))
 (.scope
  (.seq
  (.ops false [
    ⟨some 14, .load 4 true (.t 1) [], none⟩,
    ⟨some 15, .call 23 [.t 14], none⟩,
    ⟨some 13, .mov (.t 15), none⟩,
    ⟨some 16, .ext (.t 13) 0, none⟩,
    ⟨some 17, .ext (.t 13) 1, none⟩,
    ⟨some 4, .mov (.t 16), none⟩,
    ⟨some 5, .mov (.t 17), none⟩] (some [1, 4, 5]))
  (.seq
  (.seq
  (.ops false [
    ⟨some 18, .mov (.t 5), none⟩,
    ⟨some 19, .bin .neq (.t 18) (.k (.int 0)), none⟩] (some [1, 4, 5, 19]))
  (.cond (.t 19)
   (.seq
   (.ops false [
     ⟨some 20, .mov (.t 5), none⟩,
     ⟨some 2, .nils 501 1, none⟩,
     ⟨some 3, .mov (.t 20), none⟩] (some [2, 3]))
   .ret)
   .skip))
  (.seq
  (.ops false [
    ⟨some 6, .nils 6 1, none⟩] (some [1, 4, 6]))
  (.seq
  (.ops false [
    ⟨some 21, .load 4 true (.t 1) [], none⟩,
    ⟨some 22, .call 64 [.t 21], none⟩,
    ⟨some 7, .alloc 7 [.int 0, .int 0, .sl 1 [] .full, .sl 2 [] .full, .und, .und], none⟩,
    ⟨none, .store 6 (.t 7) (.t 22) (some 7), none⟩] (some [1, 4, 6, 7]))
  (.seq
  .skip
  (.seq
  (.seq
  (.ops false [
    ⟨some 23, .load 4 true (.t 1) [], none⟩,
    ⟨some 24, .call 66 [.t 23], none⟩,
    ⟨some 25, .len (.t 24), none⟩,
    ⟨some 26, .mov (.k (.int 0)), none⟩] (some [1, 4, 6, 7, 24, 25, 26]))
  (.block 0
   (.loop
    (.seq
    (.ops false [
      ⟨some 27, .bin .lss (.t 26) (.t 25), none⟩] (some [1, 4, 6, 7, 24, 25, 26, 27]))
    (.seq
    (.cond (.t 27)
     .skip
     (.exit 0))
    (.seq
    (.block 1
     (.seq
     (.ops false [
       ⟨some 28, .mov (.t 26), none⟩,
       ⟨some 29, .idx 1 (.t 24) (.t 26), none⟩,
       ⟨some 30, .load 1 false (.t 29) [], none⟩,
       ⟨some 8, .mov (.t 28), none⟩,
       ⟨some 9, .mov (.t 30), none⟩] (some [1, 4, 6, 7, 8, 9, 24, 25, 26]))
     (.seq
     (.ops false [
       ⟨some 31, .mov (.t 9), none⟩,
       ⟨some 32, .len (.t 31), none⟩,
       ⟨some 33, .mov (.k (.int 0)), none⟩] (some [1, 4, 6, 7, 8, 24, 25, 26, 31, 32, 33]))
     (.block 2
      (.loop
       (.seq
       (.ops false [
         ⟨some 34, .bin .lss (.t 33) (.t 32), none⟩] (some [1, 4, 6, 7, 8, 24, 25, 26, 31, 32, 33, 34]))
       (.seq
       (.cond (.t 34)
        .skip
        (.exit 2))
       (.seq
       (.block 3
        (.seq
        (.ops false [
          ⟨some 35, .mov (.t 33), none⟩,
          ⟨some 36, .idx 2 (.t 31) (.t 33), none⟩,
          ⟨some 37, .load 2 true (.t 36) [], none⟩,
          ⟨some 11, .alloc 11 [.int 0, .int 0], none⟩,
          ⟨some 10, .mov (.t 35), none⟩,
          ⟨none, .store 2 (.t 11) (.t 37) (some 11), none⟩] (some [1, 4, 6, 7, 8, 10, 11, 24, 25, 26, 31, 32, 33]))
        (.seq
        (.ops false [
          ⟨some 38, .fld 0 (.t 1), none⟩,
          ⟨some 39, .load 1 false (.t 38) [], none⟩,
          ⟨some 40, .mov (.k (.int 0)), none⟩] (some [1, 4, 6, 7, 8, 10, 11, 24, 25, 26, 31, 32, 33, 39, 40]))
        (.block 4
         (.loop
          (.seq
          (.ops false [
            ⟨some 41, .bin .lss (.t 40) (.t 39), none⟩] (some [1, 4, 6, 7, 8, 10, 11, 24, 25, 26, 31, 32, 33, 39, 40, 41]))
          (.seq
          (.cond (.t 41)
           .skip
           (.exit 4))
          (.seq
          (.block 5
           (.seq
           (.ops false [
             ⟨some 42, .mov (.t 40), none⟩,
             ⟨some 12, .mov (.t 42), none⟩] (some [1, 4, 6, 7, 8, 10, 11, 12, 24, 25, 26, 31, 32, 33, 39, 40]))
           (.seq
           (.ops false [
             ⟨some 43, .load 2 true (.t 11) [], none⟩,
             ⟨some 44, .mov (.t 12), none⟩,
             ⟨some 45, .call 73 [.t 43, .t 44], none⟩,
             ⟨some 46, .bin .gtr (.t 45) (.k (.int 0)), none⟩,
             ⟨some 47, .mov (.t 46), none⟩,
             ⟨some 48, .load 6 true (.t 7) [], some (47, true)⟩,
             ⟨some 49, .mov (.t 8), some (47, true)⟩,
             ⟨some 50, .mov (.t 10), some (47, true)⟩,
             ⟨some 51, .mov (.t 12), some (47, true)⟩,
             ⟨some 52, .call 74 [.t 48, .t 49, .t 50, .t 51], some (47, true)⟩,
             ⟨some 53, .call 71 [.t 52], some (47, true)⟩,
             ⟨some 54, .fieldV 0 1 false (.t 53), some (47, true)⟩,
             ⟨some 55, .mov (.t 4), some (47, true)⟩,
             ⟨some 56, .bin .eql (.t 54) (.t 55), some (47, true)⟩,
             ⟨some 57, .pick (.t 47) (.t 56) (.k (.bool false)), none⟩] (some [1, 4, 6, 7, 8, 10, 11, 24, 25, 26, 31, 32, 33, 39, 40, 57]))
           (.cond (.t 57)
            (.seq
            (.ops false [
              ⟨some 58, .mov (.t 6), none⟩,
              ⟨some 59, .mov (.t 8), none⟩,
              ⟨some 60, .bslice 1 [.t 59], none⟩,
              ⟨some 61, .app 61 1 8 (.t 58) (.t 60), none⟩,
              ⟨some 6, .mov (.t 61), none⟩] (some [1, 4, 6, 7, 24, 25, 26]))
            (.exit 1))
            .skip))))
          (.ops false [
            ⟨some 62, .bin .add (.t 40) (.k (.int 1)), none⟩,
            ⟨some 40, .mov (.t 62), none⟩] (some [1, 4, 6, 7, 8, 10, 11, 24, 25, 26, 31, 32, 33, 39, 40]))))))))))
       (.ops false [
         ⟨some 63, .bin .add (.t 33) (.k (.int 1)), none⟩,
         ⟨some 33, .mov (.t 63), none⟩] (some [1, 4, 6, 7, 8, 24, 25, 26, 31, 32, 33]))))))))))
    (.ops false [
      ⟨some 64, .bin .add (.t 26) (.k (.int 1)), none⟩,
      ⟨some 26, .mov (.t 64), none⟩] (some [1, 4, 6, 7, 24, 25, 26]))))))))
  (.seq
  (.seq
  (.ops false [
    ⟨some 65, .mov (.t 6), none⟩,
    ⟨some 66, .len (.t 65), none⟩,
    ⟨some 67, .bin .eql (.t 66) (.k (.int 0)), none⟩] (some [6, 67]))
  (.cond (.t 67)
   (.seq
   (.ops false [
     ⟨some 2, .nils 503 1, none⟩,
     ⟨some 3, .mov (.k (.int 3)), none⟩] (some [2, 3]))
   .ret)
   .skip))
  (.seq
  (.ops false [
    ⟨some 68, .mov (.t 6), none⟩,
    ⟨some 2, .mov (.t 68), none⟩,
    ⟨some 3, .mov (.k (.int 0)), none⟩] (some [2, 3]))
  .ret))))))))))

theorem m25 : fmatch Try.prog Try.f25 1 [.tmp 2, .tmp 3] v25 = true := by kernel_rfl

/-- steening/steeningref11.Blame -/
def v26 : VC :=
 (.seq
 (.ops false [
   ⟨some 1, .box 1 4 (.t 0), none⟩,
   ⟨some 2, .nils 2 1, none⟩,
   ⟨some 3, .mov (.k (.int 0)), none⟩] (some [1]))
 (.seq
 (.seq
 (.ops false [
   ⟨some 11, .load 4 true (.t 1) [], none⟩,
   ⟨some 12, .call 50 [.t 11], none⟩,
   ⟨some 4, .mov (.t 12), none⟩] (some [1, 4]))
 (.seq
 (.ops false [
   ⟨some 13, .mov (.t 4), none⟩,
   ⟨some 14, .bin .neq (.t 13) (.k (.int 0)), none⟩] (some [1, 4, 14]))
 (.cond (.t 14)
  (.seq
  (.ops false [
    ⟨some 15, .mov (.t 4), none⟩,
    ⟨some 2, .nils 501 1, none⟩,
    ⟨some 3, .mov (.t 15), none⟩] (some [2, 3]))
  .ret)
  .skip)))
 (.seq
 (.ops false [
   ⟨some 17, .load 4 true (.t 1) [], none⟩,
   ⟨some 18, .call 72 [.t 17], none⟩,
   ⟨some 16, .mov (.t 18), none⟩,
   ⟨some 19, .ext (.t 16) 0, none⟩,
   ⟨some 20, .ext (.t 16) 1, none⟩,
   ⟨some 5, .mov (.t 19), none⟩,
   ⟨some 6, .mov (.t 20), none⟩] (some [1, 5, 6]))
 (.seq
 (.seq
 (.ops false [
   ⟨some 21, .mov (.t 6), none⟩,
   ⟨some 22, .bin .eql (.t 21) (.k (.int 0)), none⟩] (some [1, 5, 22]))
 (.cond (.t 22)
  (.seq
  (.ops false [
    ⟨some 2, .nils 502 1, none⟩,
    ⟨some 3, .mov (.k (.int 3)), none⟩] (some [2, 3]))
  .ret)
  .skip))
 (.seq
 (.ops false [
   ⟨some 7, .nils 7 1, none⟩] (some [1, 5, 7]))
 (.seq
 (.seq
 (.ops false [
   ⟨some 8, .mov (.k (.int 0)), none⟩] (some [1, 5, 7, 8]))
 (.block 0
  (.loop
   (.seq
   (.seq
   (.ops false [
     ⟨some 23, .mov (.t 8), none⟩,
     ⟨some 24, .fld 2 (.t 1), none⟩,
     ⟨some 25, .load 1 false (.t 24) [], none⟩,
     ⟨some 26, .len (.t 25), none⟩,
     ⟨some 27, .bin .leq (.t 23) (.t 26), none⟩] (some [1, 5, 7, 8, 27]))
   (.cond (.t 27)
    .skip
    (.exit 0)))
   (.seq
   (.block 1
    (.seq
    (.ops false [
      ⟨some 9, .mov (.k (.bool false)), none⟩] (some [1, 5, 7, 8, 9]))
    (.seq
    (.seq
    (.ops false [
      ⟨some 10, .mov (.k (.int 0)), none⟩] (some [1, 5, 7, 8, 9, 10]))
    (.block 2
     (.loop
      (.seq
      (.seq
      (.ops false [
        ⟨some 30, .mov (.t 10), none⟩,
        ⟨some 31, .mov (.t 5), none⟩,
        ⟨some 32, .len (.t 31), none⟩,
        ⟨some 33, .bin .lss (.t 30) (.t 32), none⟩] (some [1, 5, 7, 8, 9, 10, 33]))
      (.cond (.t 33)
       .skip
       (.exit 2)))
      (.seq
      (.block 3
       (.ops true [
         ⟨some 36, .mov (.t 9), none⟩,
         ⟨some 37, .mov (.t 36), none⟩,
         ⟨some 38, .load 4 true (.t 1) [], some (37, false)⟩,
         ⟨some 39, .mov (.t 8), some (37, false)⟩,
         ⟨some 40, .call 32 [.t 38, .t 39], some (37, false)⟩,
         ⟨some 41, .load 4 true (.t 1) [], some (37, false)⟩,
         ⟨some 42, .mov (.t 5), some (37, false)⟩,
         ⟨some 43, .mov (.t 10), some (37, false)⟩,
         ⟨some 44, .idx 1 (.t 42) (.t 43), some (37, false)⟩,
         ⟨some 45, .load 1 false (.t 44) [], some (37, false)⟩,
         ⟨some 46, .mov (.t 8), some (37, false)⟩,
         ⟨some 47, .idx 1 (.t 45) (.t 46), some (37, false)⟩,
         ⟨some 48, .load 1 false (.t 47) [], some (37, false)⟩,
         ⟨some 49, .call 69 [.t 41, .t 48], some (37, false)⟩,
         ⟨some 50, .call 75 [.t 40, .t 49], some (37, false)⟩,
         ⟨some 51, .bin .gtr (.t 50) (.k (.int 0)), some (37, false)⟩,
         ⟨some 52, .pick (.t 37) (.k (.bool true)) (.t 51), none⟩,
         ⟨some 9, .mov (.t 52), none⟩] (some [1, 5, 7, 8, 9, 10])))
      (.ops false [
        ⟨some 34, .mov (.t 10), none⟩,
        ⟨some 35, .bin .add (.t 34) (.k (.int 1)), none⟩,
        ⟨some 10, .mov (.t 35), none⟩] (some [1, 5, 7, 8, 9, 10])))))))
    (.seq
    (.ops false [
      ⟨some 53, .mov (.t 9), none⟩] (some [1, 5, 7, 8, 53]))
    (.cond (.t 53)
     (.ops false [
       ⟨some 54, .mov (.t 7), none⟩,
       ⟨some 55, .mov (.t 8), none⟩,
       ⟨some 56, .bslice 1 [.t 55], none⟩,
       ⟨some 57, .app 57 1 8 (.t 54) (.t 56), none⟩,
       ⟨some 7, .mov (.t 57), none⟩] (some [1, 5, 7, 8]))
     .skip)))))
   (.ops false [
     ⟨some 28, .mov (.t 8), none⟩,
     ⟨some 29, .bin .add (.t 28) (.k (.int 1)), none⟩,
     ⟨some 8, .mov (.t 29), none⟩] (some [1, 5, 7, 8])))))))
 (.seq
 (.ops false [
   ⟨some 58, .mov (.t 7), none⟩,
   ⟨some 2, .mov (.t 58), none⟩,
   ⟨some 3, .mov (.k (.int 0)), none⟩] (some [2, 3]))
 .ret)))))))

theorem m26 : fmatch Try.prog Try.f26 1 [.tmp 2, .tmp 3] v26 = true := by kernel_rfl

/-- steening/steeningref01.SameInts -/
def v27 : VC :=
 (.seq
 (.ops false [
   ⟨some 4, .mov (.k (.bool false)), none⟩] (some [0, 1]))
 (.seq
 (.seq
 (.ops false [
   ⟨some 6, .mov (.t 0), none⟩,
   ⟨some 7, .len (.t 6), none⟩,
   ⟨some 8, .mov (.t 1), none⟩,
   ⟨some 9, .len (.t 8), none⟩,
   ⟨some 10, .bin .neq (.t 7) (.t 9), none⟩] (some [0, 1, 10]))
 (.cond (.t 10)
  (.seq
  (.ops false [
    ⟨some 4, .mov (.k (.bool false)), none⟩] (some [4]))
  .ret)
  .skip))
 (.seq
 (.seq
 (.ops false [
   ⟨some 5, .mov (.k (.int 0)), none⟩] (some [0, 1, 5]))
 (.block 0
  (.loop
   (.seq
   (.seq
   (.ops false [
     ⟨some 11, .mov (.t 5), none⟩,
     ⟨some 12, .mov (.t 0), none⟩,
     ⟨some 13, .len (.t 12), none⟩,
     ⟨some 14, .bin .lss (.t 11) (.t 13), none⟩] (some [0, 1, 5, 14]))
   (.cond (.t 14)
    .skip
    (.exit 0)))
   (.seq
   (.block 1
    (.seq
    (.ops true [
      ⟨some 17, .mov (.t 0), none⟩,
      ⟨some 18, .mov (.t 5), none⟩,
      ⟨some 19, .idx 1 (.t 17) (.t 18), none⟩,
      ⟨some 20, .load 1 false (.t 19) [], none⟩,
      ⟨some 21, .mov (.t 1), none⟩,
      ⟨some 22, .mov (.t 5), none⟩,
      ⟨some 23, .idx 1 (.t 21) (.t 22), none⟩,
      ⟨some 24, .load 1 false (.t 23) [], none⟩,
      ⟨some 25, .bin .neq (.t 20) (.t 24), none⟩] (some [0, 1, 5, 25]))
    (.cond (.t 25)
     (.seq
     (.ops false [
       ⟨some 4, .mov (.k (.bool false)), none⟩] (some [4]))
     .ret)
     .skip)))
   (.ops false [
     ⟨some 15, .mov (.t 5), none⟩,
     ⟨some 16, .bin .add (.t 15) (.k (.int 1)), none⟩,
     ⟨some 5, .mov (.t 16), none⟩] (some [0, 1, 5])))))))
 (.seq
 (.ops false [
   ⟨some 4, .mov (.k (.bool true)), none⟩] (some [4]))
 .ret))))

theorem m27 : fmatch Try.prog Try.f27 2 [.tmp 4] v27 = true := by kernel_rfl

/-- steening/steeninglaw11.ready -/
def v28 : VC :=
 (.seq
 (.ops false [
   ⟨some 1, .box 1 4 (.t 0), none⟩,
   ⟨some 2, .mov (.k (.bool false)), none⟩] (some [1]))
 (.seq
 (.ops false [
   ⟨some 3, .load 4 true (.t 1) [], none⟩,
   ⟨some 4, .call 48 [.t 3], none⟩,
   ⟨some 5, .not (.t 4), none⟩,
   ⟨some 6, .mov (.t 5), none⟩,
   ⟨some 7, .load 4 true (.t 1) [], some (6, true)⟩,
   ⟨some 8, .call 50 [.t 7], some (6, true)⟩,
   ⟨some 9, .bin .eql (.t 8) (.k (.int 0)), some (6, true)⟩,
   ⟨some 10, .pick (.t 6) (.t 9) (.k (.bool false)), none⟩,
   ⟨some 2, .mov (.t 10), none⟩] (some [2]))
 .ret))

theorem m28 : fmatch Try.prog Try.f28 1 [.tmp 2] v28 = true := by kernel_rfl

/-- steening/steeningref11.IsCord -/
def v29 : VC :=
 (.seq
 (.ops false [
   ⟨some 2, .box 2 4 (.t 0), none⟩,
   ⟨some 4, .mov (.k (.bool false)), none⟩] (some [1, 2]))
 (.seq
 (.ops false [
   ⟨some 5, .mov (.t 1), none⟩,
   ⟨some 6, .fld 2 (.t 2), none⟩,
   ⟨some 7, .load 1 false (.t 6) [], none⟩,
   ⟨some 8, .len (.t 7), none⟩,
   ⟨some 9, .call 76 [.t 5, .k (.int 0), .t 8], none⟩,
   ⟨some 4, .mov (.t 9), none⟩] (some [4]))
 .ret))

theorem m29 : fmatch Try.prog Try.f29 2 [.tmp 4] v29 = true := by kernel_rfl

/-- steening/steeningref11.IsPlace -/
def v30 : VC :=
 (.seq
 (.ops false [
   ⟨some 2, .box 2 4 (.t 0), none⟩,
   ⟨some 4, .mov (.k (.bool false)), none⟩] (some [1, 2]))
 (.seq
 (.ops false [
   ⟨some 5, .mov (.t 1), none⟩,
   ⟨some 6, .fld 1 (.t 2), none⟩,
   ⟨some 7, .load 1 false (.t 6) [], none⟩,
   ⟨some 8, .bin .sub (.t 7) (.k (.int 1)), none⟩,
   ⟨some 9, .call 76 [.t 5, .k (.int 0), .t 8], none⟩,
   ⟨some 4, .mov (.t 9), none⟩] (some [4]))
 .ret))

theorem m30 : fmatch Try.prog Try.f30 2 [.tmp 4] v30 = true := by kernel_rfl

/-- steening/steeninglaw11.inside -/
def v31 : VC :=
 (.seq
 (.ops false [
   ⟨some 2, .box 2 2 (.t 0), none⟩,
   ⟨some 3, .box 3 2 (.t 1), none⟩,
   ⟨some 4, .mov (.k (.bool false)), none⟩] (some [2, 3]))
 (.seq
 (.ops false [
   ⟨some 5, .fld 0 (.t 3), none⟩,
   ⟨some 6, .load 1 false (.t 5) [], none⟩,
   ⟨some 7, .fld 0 (.t 2), none⟩,
   ⟨some 8, .load 1 false (.t 7) [], none⟩,
   ⟨some 9, .bin .leq (.t 6) (.t 8), none⟩,
   ⟨some 10, .mov (.t 9), none⟩,
   ⟨some 11, .fld 0 (.t 2), some (10, true)⟩,
   ⟨some 12, .load 1 false (.t 11) [], some (10, true)⟩,
   ⟨some 13, .fld 1 (.t 2), some (10, true)⟩,
   ⟨some 14, .load 1 false (.t 13) [], some (10, true)⟩,
   ⟨some 15, .bin .leq (.t 12) (.t 14), some (10, true)⟩,
   ⟨some 16, .pick (.t 10) (.t 15) (.k (.bool false)), none⟩,
   ⟨some 17, .mov (.t 16), none⟩,
   ⟨some 18, .fld 1 (.t 2), some (17, true)⟩,
   ⟨some 19, .load 1 false (.t 18) [], some (17, true)⟩,
   ⟨some 20, .fld 1 (.t 3), some (17, true)⟩,
   ⟨some 21, .load 1 false (.t 20) [], some (17, true)⟩,
   ⟨some 22, .bin .leq (.t 19) (.t 21), some (17, true)⟩,
   ⟨some 23, .pick (.t 17) (.t 22) (.k (.bool false)), none⟩,
   ⟨some 4, .mov (.t 23), none⟩] (some [4]))
 .ret))

theorem m31 : fmatch Try.prog Try.f31 2 [.tmp 4] v31 = true := by kernel_rfl

/-- steening/steeningref11.CordOf -/
def v32 : VC :=
 (.seq
 (.ops false [
   ⟨some 2, .box 2 4 (.t 0), none⟩,
   ⟨some 4, .nils 4 2, none⟩] (some [1, 2]))
 (.seq
 (.seq
 (.ops false [
   ⟨some 5, .mov (.t 1), none⟩,
   ⟨some 6, .fld 2 (.t 2), none⟩,
   ⟨some 7, .load 1 false (.t 6) [], none⟩,
   ⟨some 8, .len (.t 7), none⟩,
   ⟨some 9, .bin .eql (.t 5) (.t 8), none⟩] (some [1, 2, 9]))
 (.cond (.t 9)
  (.seq
  (.ops false [
    ⟨some 10, .fld 3 (.t 2), none⟩,
    ⟨some 11, .load 1 false (.t 10) [], none⟩,
    ⟨some 4, .mov (.t 11), none⟩] (some [4]))
  .ret)
  .skip))
 (.seq
 (.ops false [
   ⟨some 12, .fld 2 (.t 2), none⟩,
   ⟨some 13, .load 1 false (.t 12) [], none⟩,
   ⟨some 14, .mov (.t 1), none⟩,
   ⟨some 15, .idx 1 (.t 13) (.t 14), none⟩,
   ⟨some 16, .load 1 false (.t 15) [], none⟩,
   ⟨some 4, .mov (.t 16), none⟩] (some [4]))
 .ret)))

theorem m32 : fmatch Try.prog Try.f32 2 [.tmp 4] v32 = true := by kernel_rfl

/-- steening/steeningref11.With -/
def v33 : VC :=
 (.seq
 (.ops false [
   ⟨some 4, .box 4 4 (.t 0), none⟩,
   ⟨some 7, .box 7 2 (.t 3), none⟩,
   ⟨some 8, .alloc 8 [.int 0, .int 0, .sl 1 [] .full, .sl 2 [] .full], none⟩] (some [1, 2, 4, 7, 8]))
 (.seq
 (.ops false [
   ⟨some 10, .load 4 true (.t 4) [], none⟩,
   ⟨some 11, .call 18 [.t 10], none⟩,
   ⟨some 9, .alloc 9 [.int 0, .int 0, .sl 1 [] .full, .sl 2 [] .full], none⟩,
   ⟨none, .store 4 (.t 9) (.t 11) (some 9), none⟩] (some [1, 2, 4, 7, 8, 9]))
 (.seq
 (.seq
 (.ops false [
   ⟨some 12, .mov (.t 1), none⟩,
   ⟨some 13, .fld 2 (.t 4), none⟩,
   ⟨some 14, .load 1 false (.t 13) [], none⟩,
   ⟨some 15, .len (.t 14), none⟩,
   ⟨some 16, .bin .eql (.t 12) (.t 15), none⟩] (some [1, 2, 7, 8, 9, 16]))
 (.cond (.t 16)
  (.ops false [
    ⟨some 17, .fld 3 (.t 9), none⟩,
    ⟨some 18, .load 1 false (.t 17) [], none⟩,
    ⟨some 19, .mov (.t 2), none⟩,
    ⟨some 20, .load 2 true (.t 7) [], none⟩,
    ⟨some 21, .idx 2 (.t 18) (.t 19), none⟩,
    ⟨none, .store 2 (.t 21) (.t 20) none, none⟩] (some [8, 9]))
  (.ops true [
    ⟨some 22, .fld 2 (.t 9), none⟩,
    ⟨some 23, .load 1 false (.t 22) [], none⟩,
    ⟨some 24, .mov (.t 1), none⟩,
    ⟨some 25, .idx 1 (.t 23) (.t 24), none⟩,
    ⟨some 26, .load 1 false (.t 25) [], none⟩,
    ⟨some 27, .mov (.t 2), none⟩,
    ⟨some 28, .load 2 true (.t 7) [], none⟩,
    ⟨some 29, .idx 2 (.t 26) (.t 27), none⟩,
    ⟨none, .store 2 (.t 29) (.t 28) none, none⟩] (some [8, 9]))))
 (.seq
 (.ops false [
   ⟨some 30, .load 4 true (.t 9) [], none⟩,
   ⟨none, .store 4 (.t 8) (.t 30) (some 8), none⟩] (some [8]))
 .ret))))

theorem m33 : fmatch Try.prog Try.f33 4 [.cell 8 25] v33 = true := by kernel_rfl

/-- steening/knots.Many -/
def v34 : VC :=
 (.seq
 (.ops false [
   ⟨some 1, .box 1 4 (.t 0), none⟩,
   ⟨some 2, .mov (.k (.int 0)), none⟩,
   ⟨some 3, .mov (.k (.int 0)), none⟩] (some [1]))
 (.seq
 (.seq
 (.ops false [
   ⟨some 5, .load 4 true (.t 1) [], none⟩,
   ⟨some 6, .call 49 [.t 5], none⟩,
   ⟨some 4, .mov (.t 6), none⟩] (some [1, 4]))
 (.seq
 (.ops false [
   ⟨some 7, .mov (.t 4), none⟩,
   ⟨some 8, .bin .neq (.t 7) (.k (.int 0)), none⟩] (some [1, 4, 8]))
 (.cond (.t 8)
  (.seq
  (.ops false [
    ⟨some 9, .mov (.t 4), none⟩,
    ⟨some 2, .mov (.k (.int 0)), none⟩,
    ⟨some 3, .mov (.t 9), none⟩] (some [2, 3]))
  .ret)
  .skip)))
 (.seq
 (.ops false [
   ⟨some 10, .load 4 true (.t 1) [], none⟩,
   ⟨some 11, .call 64 [.t 10], none⟩,
   ⟨some 12, .call 65 [.t 11], none⟩,
   ⟨some 2, .mov (.t 12), none⟩,
   ⟨some 3, .mov (.k (.int 0)), none⟩] (some [2, 3]))
 .ret)))

theorem m34 : fmatch Try.prog Try.f34 1 [.tmp 2, .tmp 3] v34 = true := by kernel_rfl

/-- steening/knots.Sure -/
def v35 : VC :=
 (.seq
 (.ops false [
   ⟨some 2, .box 2 4 (.t 0), none⟩,
   ⟨some 3, .box 3 1 (.t 1), none⟩,
   ⟨some 4, .alloc 4 [.int 0, .int 0], none⟩,
   ⟨some 5, .mov (.k (.int 0)), none⟩] (some [2, 3, 4]))
 (.seq
 (.ops true [
   ⟨some 10, .load 4 true (.t 2) [6], none⟩,
   ⟨some 11, .load 4 true (.t 2) [6], none⟩,
   ⟨some 12, .load 1 false (.t 3) [6], none⟩,
   ⟨some 13, .call 78 [.t 11, .t 12], none⟩,
   ⟨some 14, .call 77 [.t 10, .t 13], none⟩,
   ⟨some 9, .mov (.t 14), none⟩,
   ⟨some 15, .ext (.t 9) 0, none⟩,
   ⟨some 16, .ext (.t 9) 1, none⟩,
   ⟨some 6, .alloc 6 [.int 0, .int 0, .sl 1 [] .full, .sl 2 [] .full, .und, .und], none⟩,
   ⟨none, .store 6 (.t 6) (.t 15) (some 6), none⟩,
   ⟨some 7, .mov (.t 16), none⟩] (some [2, 3, 4, 6, 7]))
 (.seq
 (.seq
 (.ops false [
   ⟨some 17, .mov (.t 7), none⟩,
   ⟨some 18, .bin .neq (.t 17) (.k (.int 0)), none⟩] (some [2, 3, 4, 6, 7, 18]))
 (.cond (.t 18)
  (.seq
  (.ops false [
    ⟨some 19, .build [.int 0, .int 0] [], none⟩,
    ⟨some 20, .mov (.t 7), none⟩,
    ⟨none, .store 2 (.t 4) (.t 19) (some 4), none⟩,
    ⟨some 5, .mov (.t 20), none⟩] (some [4, 5]))
  .ret)
  .skip))
 (.seq
 (.ops false [
   ⟨some 21, .mkf 79 [.t 6, .t 2, .t 3], none⟩,
   ⟨some 8, .mov (.t 21), none⟩] (some [4, 8]))
 (.seq
 (.ops false [
   ⟨some 22, .mov (.t 8), none⟩,
   ⟨some 23, .callv (.t 22) [.k (.clo 82 [] [])], none⟩,
   ⟨some 24, .mov (.t 8), none⟩,
   ⟨some 25, .callv (.t 24) [.k (.clo 83 [] [])], none⟩,
   ⟨some 26, .build [.int 0, .int 0] [(0, 1, .t 23), (1, 1, .t 25)], none⟩,
   ⟨none, .store 2 (.t 4) (.t 26) (some 4), none⟩,
   ⟨some 5, .mov (.k (.int 0)), none⟩] (some [4, 5]))
 .ret)))))

theorem m35 : fmatch Try.prog Try.f35 2 [.cell 4 42, .tmp 5] v35 = true := by kernel_rfl

/-- steening/steeninglaw11.isKnown -/
def v36 : VC :=
 (.seq
 (.ops false [
   ⟨some 2, .mov (.k (.bool false)), none⟩] (some [0]))
 (.seq
 (.ops false [
   ⟨some 3, .mov (.t 0), none⟩,
   ⟨some 4, .bin .eql (.t 3) (.k (.int 0)), none⟩,
   ⟨some 5, .mov (.t 4), none⟩,
   ⟨some 6, .mov (.t 0), some (5, false)⟩,
   ⟨some 7, .bin .eql (.t 6) (.k (.int 3)), some (5, false)⟩,
   ⟨some 8, .pick (.t 5) (.k (.bool true)) (.t 7), none⟩,
   ⟨some 2, .mov (.t 8), none⟩] (some [2]))
 .ret))

theorem m36 : fmatch Try.prog Try.f36 1 [.tmp 2] v36 = true := by kernel_rfl

/-- steening/steeningref01.Rising -/
def v37 : VC :=
 (.seq
 (.ops false [
   ⟨some 6, .mov (.k (.bool false)), none⟩] (some [0, 1, 2]))
 (.seq
 (.seq
 (.ops false [
   ⟨some 7, .mov (.k (.int 0)), none⟩] (some [0, 1, 2, 7]))
 (.block 0
  (.loop
   (.seq
   (.seq
   (.ops false [
     ⟨some 8, .mov (.t 7), none⟩,
     ⟨some 9, .mov (.t 0), none⟩,
     ⟨some 10, .len (.t 9), none⟩,
     ⟨some 11, .bin .lss (.t 8) (.t 10), none⟩] (some [0, 1, 2, 7, 11]))
   (.cond (.t 11)
    .skip
    (.exit 0)))
   (.seq
   (.block 1
    (.seq
    (.ops true [
      ⟨some 14, .mov (.t 0), none⟩,
      ⟨some 15, .mov (.t 7), none⟩,
      ⟨some 16, .idx 1 (.t 14) (.t 15), none⟩,
      ⟨some 17, .load 1 false (.t 16) [], none⟩,
      ⟨some 18, .mov (.t 1), none⟩,
      ⟨some 19, .mov (.t 2), none⟩,
      ⟨some 20, .call 40 [.t 17, .t 18, .t 19], none⟩,
      ⟨some 21, .not (.t 20), none⟩,
      ⟨some 22, .mov (.t 21), none⟩,
      ⟨some 23, .mov (.t 7), some (22, false)⟩,
      ⟨some 24, .bin .gtr (.t 23) (.k (.int 0)), some (22, false)⟩,
      ⟨some 25, .mov (.t 24), some (22, false)⟩,
      ⟨some 26, .mov (.t 0), some (25, true)⟩,
      ⟨some 27, .mov (.t 7), some (25, true)⟩,
      ⟨some 28, .idx 1 (.t 26) (.t 27), some (25, true)⟩,
      ⟨some 29, .load 1 false (.t 28) [], some (25, true)⟩,
      ⟨some 30, .mov (.t 0), some (25, true)⟩,
      ⟨some 31, .mov (.t 7), some (25, true)⟩,
      ⟨some 32, .bin .sub (.t 31) (.k (.int 1)), some (25, true)⟩,
      ⟨some 33, .idx 1 (.t 30) (.t 32), some (25, true)⟩,
      ⟨some 34, .load 1 false (.t 33) [], some (25, true)⟩,
      ⟨some 35, .bin .leq (.t 29) (.t 34), some (25, true)⟩,
      ⟨some 36, .pick (.t 25) (.t 35) (.k (.bool false)), some (22, false)⟩,
      ⟨some 37, .pick (.t 22) (.k (.bool true)) (.t 36), none⟩] (some [0, 1, 2, 7, 37]))
    (.cond (.t 37)
     (.seq
     (.ops false [
       ⟨some 6, .mov (.k (.bool false)), none⟩] (some [6]))
     .ret)
     .skip)))
   (.ops false [
     ⟨some 12, .mov (.t 7), none⟩,
     ⟨some 13, .bin .add (.t 12) (.k (.int 1)), none⟩,
     ⟨some 7, .mov (.t 13), none⟩] (some [0, 1, 2, 7])))))))
 (.seq
 (.ops false [
   ⟨some 6, .mov (.k (.bool true)), none⟩] (some [6]))
 .ret)))

theorem m37 : fmatch Try.prog Try.f37 3 [.tmp 6] v37 = true := by kernel_rfl

/-- steening/steeninglaw11.worst -/
def v38 : VC :=
 (.seq
 (.ops false [
   ⟨some 3, .box 3 4 (.t 0), none⟩,
   ⟨some 6, .mov (.k (.int 0)), none⟩,
   ⟨some 7, .mov (.k (.bool false)), none⟩] (some [1, 2, 3]))
 (.seq
 (.ops false [
   ⟨some 13, .load 4 true (.t 3) [], none⟩,
   ⟨some 14, .mov (.t 1), none⟩,
   ⟨some 15, .call 32 [.t 13, .t 14], none⟩,
   ⟨some 16, .mov (.t 2), none⟩,
   ⟨some 17, .idx 2 (.t 15) (.t 16), none⟩,
   ⟨some 18, .load 2 true (.t 17) [], none⟩,
   ⟨some 8, .alloc 8 [.int 0, .int 0], none⟩,
   ⟨none, .store 2 (.t 8) (.t 18) (some 8), none⟩] (some [1, 2, 3, 8]))
 (.seq
 (.ops false [
   ⟨some 9, .mov (.k (.int 0)), none⟩] (some [1, 2, 3, 8, 9]))
 (.seq
 (.seq
 (.ops false [
   ⟨some 19, .fld 0 (.t 8), none⟩,
   ⟨some 20, .load 1 false (.t 19) [], none⟩,
   ⟨some 10, .mov (.t 20), none⟩] (some [1, 2, 3, 8, 9, 10]))
 (.block 0
  (.loop
   (.seq
   (.seq
   (.ops false [
     ⟨some 21, .mov (.t 10), none⟩,
     ⟨some 22, .fld 1 (.t 8), none⟩,
     ⟨some 23, .load 1 false (.t 22) [], none⟩,
     ⟨some 24, .bin .leq (.t 21) (.t 23), none⟩] (some [1, 2, 3, 8, 9, 10, 24]))
   (.cond (.t 24)
    .skip
    (.exit 0)))
   (.seq
   (.block 1
    (.seq
    (.ops false [
      ⟨some 28, .load 4 true (.t 3) [], none⟩,
      ⟨some 29, .mov (.t 1), none⟩,
      ⟨some 30, .mov (.t 2), none⟩,
      ⟨some 31, .mov (.t 10), none⟩,
      ⟨some 32, .mov (.t 10), none⟩,
      ⟨some 33, .build [.int 0, .int 0] [(0, 1, .t 31), (1, 1, .t 32)], none⟩,
      ⟨some 34, .call 33 [.t 28, .t 29, .t 30, .t 33], none⟩,
      ⟨some 35, .call 34 [.t 34], none⟩,
      ⟨some 27, .mov (.t 35), none⟩,
      ⟨some 36, .ext (.t 27) 0, none⟩,
      ⟨some 37, .ext (.t 27) 1, none⟩,
      ⟨some 11, .mov (.t 36), none⟩,
      ⟨some 12, .mov (.t 37), none⟩] (some [1, 2, 3, 8, 9, 10, 11, 12]))
    (.seq
    (.seq
    (.ops false [
      ⟨some 38, .mov (.t 12), none⟩,
      ⟨some 39, .bin .neq (.t 38) (.k (.int 0)), none⟩,
      ⟨some 40, .mov (.t 39), none⟩,
      ⟨some 41, .mov (.t 11), some (40, false)⟩,
      ⟨some 42, .bin .lss (.t 41) (.k (.int 0)), some (40, false)⟩,
      ⟨some 43, .pick (.t 40) (.k (.bool true)) (.t 42), none⟩] (some [1, 2, 3, 8, 9, 10, 11, 43]))
    (.cond (.t 43)
     (.seq
     (.ops false [
       ⟨some 6, .mov (.k (.int 0)), none⟩,
       ⟨some 7, .mov (.k (.bool false)), none⟩] (some [6, 7]))
     .ret)
     .skip))
    (.ops false [
      ⟨some 44, .mov (.t 9), none⟩,
      ⟨some 45, .mov (.t 11), none⟩,
      ⟨some 46, .max (.t 44) (.t 45), none⟩,
      ⟨some 9, .mov (.t 46), none⟩] (some [1, 2, 3, 8, 9, 10])))))
   (.ops false [
     ⟨some 25, .mov (.t 10), none⟩,
     ⟨some 26, .bin .add (.t 25) (.k (.int 1)), none⟩,
     ⟨some 10, .mov (.t 26), none⟩] (some [1, 2, 3, 8, 9, 10])))))))
 (.seq
 (.ops false [
   ⟨some 47, .mov (.t 9), none⟩,
   ⟨some 6, .mov (.t 47), none⟩,
   ⟨some 7, .mov (.k (.bool true)), none⟩] (some [6, 7]))
 .ret)))))

theorem m38 : fmatch Try.prog Try.f38 3 [.tmp 6, .tmp 7] v38 = true := by kernel_rfl

/-- steening/knots.Cluster -/
def v39 : VC :=
 (.seq
 (.ops false [
   ⟨some 3, .box 3 4 (.t 0), none⟩,
   ⟨some 6, .alloc 6 [.int 0, .int 0], none⟩,
   ⟨some 7, .mov (.k (.int 0)), none⟩] (some [1, 2, 3, 6]))
 (.seq
 (.ops true [
   ⟨some 11, .load 4 true (.t 3) [8], none⟩,
   ⟨some 12, .load 4 true (.t 3) [8], none⟩,
   ⟨some 13, .mov (.t 1), none⟩,
   ⟨some 14, .call 78 [.t 12, .t 13], none⟩,
   ⟨some 15, .mov (.t 14), none⟩,
   ⟨some 16, .load 4 true (.t 3) [8], some (15, true)⟩,
   ⟨some 17, .mov (.t 2), some (15, true)⟩,
   ⟨some 18, .call 84 [.t 16, .t 17], some (15, true)⟩,
   ⟨some 19, .pick (.t 15) (.t 18) (.k (.bool false)), none⟩,
   ⟨some 20, .call 77 [.t 11, .t 19], none⟩,
   ⟨some 10, .mov (.t 20), none⟩,
   ⟨some 21, .ext (.t 10) 0, none⟩,
   ⟨some 22, .ext (.t 10) 1, none⟩,
   ⟨some 8, .alloc 8 [.int 0, .int 0, .sl 1 [] .full, .sl 2 [] .full, .und, .und], none⟩,
   ⟨none, .store 6 (.t 8) (.t 21) (some 8), none⟩,
   ⟨some 9, .mov (.t 22), none⟩] (some [1, 2, 6, 8, 9]))
 (.seq
 (.seq
 (.ops false [
   ⟨some 23, .mov (.t 9), none⟩,
   ⟨some 24, .bin .neq (.t 23) (.k (.int 0)), none⟩] (some [1, 2, 6, 8, 9, 24]))
 (.cond (.t 24)
  (.seq
  (.ops false [
    ⟨some 25, .build [.int 0, .int 0] [], none⟩,
    ⟨some 26, .mov (.t 9), none⟩,
    ⟨none, .store 2 (.t 6) (.t 25) (some 6), none⟩,
    ⟨some 7, .mov (.t 26), none⟩] (some [6, 7]))
  .ret)
  .skip))
 (.seq
 (.ops false [
   ⟨some 27, .load 6 true (.t 8) [], none⟩,
   ⟨some 28, .mov (.t 1), none⟩,
   ⟨some 29, .mov (.t 2), none⟩,
   ⟨some 30, .call 80 [.t 27, .t 28, .t 29], none⟩,
   ⟨none, .store 2 (.t 6) (.t 30) (some 6), none⟩,
   ⟨some 7, .mov (.k (.int 0)), none⟩] (some [6, 7]))
 .ret))))

theorem m39 : fmatch Try.prog Try.f39 3 [.cell 6 42, .tmp 7] v39 = true := by kernel_rfl

/-- steening/steeningref01.Within -/
def v40 : VC :=
 (.seq
 (.ops false [
   ⟨some 6, .mov (.k (.bool false)), none⟩] (some [0, 1, 2]))
 (.seq
 (.ops false [
   ⟨some 7, .mov (.t 1), none⟩,
   ⟨some 8, .mov (.t 0), none⟩,
   ⟨some 9, .bin .leq (.t 7) (.t 8), none⟩,
   ⟨some 10, .mov (.t 9), none⟩,
   ⟨some 11, .mov (.t 0), some (10, true)⟩,
   ⟨some 12, .mov (.t 2), some (10, true)⟩,
   ⟨some 13, .bin .leq (.t 11) (.t 12), some (10, true)⟩,
   ⟨some 14, .pick (.t 10) (.t 13) (.k (.bool false)), none⟩,
   ⟨some 6, .mov (.t 14), none⟩] (some [6]))
 .ret))

theorem m40 : fmatch Try.prog Try.f40 3 [.tmp 6] v40 = true := by kernel_rfl

/-- steening/steeningref11.All -/
def v41 : VC :=
 (.seq
 (.ops false [
   ⟨some 1, .box 1 4 (.t 0), none⟩,
   ⟨some 2, .mov (.k (.int 0)), none⟩] (some [1]))
 (.seq
 (.ops false [
   ⟨some 3, .mov (.k (.int 1)), none⟩] (some [1, 3]))
 (.seq
 (.seq
 (.ops false [
   ⟨some 4, .mov (.k (.int 0)), none⟩] (some [1, 3, 4]))
 (.block 0
  (.loop
   (.seq
   (.seq
   (.ops false [
     ⟨some 5, .mov (.t 4), none⟩,
     ⟨some 6, .fld 1 (.t 1), none⟩,
     ⟨some 7, .load 1 false (.t 6) [], none⟩,
     ⟨some 8, .bin .lss (.t 5) (.t 7), none⟩] (some [1, 3, 4, 8]))
   (.cond (.t 8)
    .skip
    (.exit 0)))
   (.seq
   (.block 1
    (.ops false [
      ⟨some 11, .mov (.t 3), none⟩,
      ⟨some 12, .fld 0 (.t 1), none⟩,
      ⟨some 13, .load 1 false (.t 12) [], none⟩,
      ⟨some 14, .bin .mul (.t 11) (.t 13), none⟩,
      ⟨some 3, .mov (.t 14), none⟩] (some [1, 3, 4])))
   (.ops false [
     ⟨some 9, .mov (.t 4), none⟩,
     ⟨some 10, .bin .add (.t 9) (.k (.int 1)), none⟩,
     ⟨some 4, .mov (.t 10), none⟩] (some [1, 3, 4])))))))
 (.seq
 (.ops false [
   ⟨some 15, .mov (.t 3), none⟩,
   ⟨some 2, .mov (.t 15), none⟩] (some [2]))
 .ret))))

theorem m41 : fmatch Try.prog Try.f41 1 [.tmp 2] v41 = true := by kernel_rfl

/-- steening/knots.Tie -/
def v42 : VC :=
 (.seq
 (.ops false [
   ⟨some 2, .box 2 4 (.t 0), none⟩,
   ⟨some 3, .box 3 1 (.t 1), none⟩,
   ⟨some 4, .nils 4 1, none⟩,
   ⟨some 5, .mov (.k (.int 0)), none⟩] (some [2, 3]))
 (.seq
 (.ops false [
   ⟨some 6, .mov (.k (.int 1)), none⟩] (some [2, 3, 6]))
 (.seq
 (.seq
 (.ops false [
   ⟨some 10, .fld 1 (.t 2), none⟩,
   ⟨some 11, .load 1 false (.t 10) [], none⟩,
   ⟨some 12, .max (.k (.int 0)) (.t 11), none⟩,
   ⟨some 13, .min (.k (.int 4)) (.t 12), none⟩,
   ⟨some 14, .mov (.k (.int 0)), none⟩] (some [2, 3, 6, 13, 14]))
 (.block 0
  (.loop
   (.seq
   (.ops false [
     ⟨some 15, .bin .lss (.t 14) (.t 13), none⟩] (some [2, 3, 6, 13, 14, 15]))
   (.seq
   (.cond (.t 15)
    .skip
    (.exit 0))
   (.seq
   (.block 1
    (.ops false [
      ⟨some 16, .mov (.t 6), none⟩,
      ⟨some 17, .fld 0 (.t 2), none⟩,
      ⟨some 18, .load 1 false (.t 17) [], none⟩,
      ⟨some 19, .max (.k (.int 1)) (.t 18), none⟩,
      ⟨some 20, .min (.k (.int 10)) (.t 19), none⟩,
      ⟨some 21, .bin .mul (.t 16) (.t 20), none⟩,
      ⟨some 6, .mov (.t 21), none⟩] (some [2, 3, 6, 13, 14])))
   (.ops false [
     ⟨some 22, .bin .add (.t 14) (.k (.int 1)), none⟩,
     ⟨some 14, .mov (.t 22), none⟩] (some [2, 3, 6, 13, 14]))))))))
 (.seq
 (.seq
 (.ops true [
   ⟨some 23, .load 4 true (.t 2) [], none⟩,
   ⟨some 24, .load 1 false (.t 3) [], none⟩,
   ⟨some 25, .mov (.t 6), none⟩,
   ⟨some 26, .bin .sub (.t 25) (.k (.int 1)), none⟩,
   ⟨some 27, .call 86 [.t 24, .k (.int 0), .t 26], none⟩,
   ⟨some 28, .call 85 [.t 23, .t 27], none⟩,
   ⟨some 7, .mov (.t 28), none⟩] (some [2, 3, 7]))
 (.seq
 (.ops false [
   ⟨some 29, .mov (.t 7), none⟩,
   ⟨some 30, .bin .neq (.t 29) (.k (.int 0)), none⟩] (some [2, 3, 7, 30]))
 (.cond (.t 30)
  (.seq
  (.ops false [
    ⟨some 31, .mov (.t 7), none⟩,
    ⟨some 4, .nils 501 1, none⟩,
    ⟨some 5, .mov (.t 31), none⟩] (some [4, 5]))
  .ret)
  .skip)))
 (.seq
 (.ops false [
   ⟨some 32, .fld 1 (.t 2), none⟩,
   ⟨some 33, .load 1 false (.t 32) [], none⟩,
   ⟨some 34, .makes 34 1 8 false [.int 0] (.t 33), none⟩,
   ⟨some 8, .alloc 8 [.sl 1 [] .full], none⟩,
   ⟨none, .store 1 (.t 8) (.t 34) (some 8), none⟩] (some [2, 3, 8]))
 (.seq
 (.seq
 (.ops false [
   ⟨some 35, .load 1 false (.t 8) [], none⟩,
   ⟨some 36, .calli 87 [.t 35], none⟩] (some [2, 3, 8, 36]))
 (.block 2
  (.range (.t 36) [37, 38]
   (.ops false [
     ⟨some 9, .mov (.t 37), none⟩] (some [2, 3, 8, 9]))
   (.block 3
    (.ops true [
      ⟨some 39, .load 1 false (.t 8) [3, 34], none⟩,
      ⟨some 40, .mov (.t 9), none⟩,
      ⟨some 41, .load 1 false (.t 3) [34], none⟩,
      ⟨some 42, .fld 0 (.t 2), none⟩,
      ⟨some 43, .load 1 false (.t 42) [3, 34], none⟩,
      ⟨some 44, .bin .rem (.t 41) (.t 43), none⟩,
      ⟨some 45, .load 1 false (.t 3) [34], none⟩,
      ⟨some 46, .fld 0 (.t 2), none⟩,
      ⟨some 47, .load 1 false (.t 46) [3, 34], none⟩,
      ⟨some 48, .bin .quo (.t 45) (.t 47), none⟩,
      ⟨some 49, .idx 1 (.t 39) (.t 40), none⟩,
      ⟨none, .store 1 (.t 49) (.t 44) (some 34), none⟩,
      ⟨none, .store 1 (.t 3) (.t 48) (some 3), none⟩] (some []))))))
 (.seq
 (.ops false [
   ⟨some 50, .load 1 false (.t 8) [], none⟩,
   ⟨some 4, .mov (.t 50), none⟩,
   ⟨some 5, .mov (.k (.int 0)), none⟩] (some [4, 5]))
 .ret)))))))

theorem m42 : fmatch Try.prog Try.f42 2 [.tmp 4, .tmp 5] v42 = true := by kernel_rfl

/-- steening/steeningref11.AreDigits -/
def v43 : VC :=
 (.seq
 (.ops false [
   ⟨some 2, .box 2 4 (.t 0), none⟩,
   ⟨some 4, .mov (.k (.bool false)), none⟩] (some [1, 2]))
 (.seq
 (.seq
 (.ops false [
   ⟨some 6, .mov (.t 1), none⟩,
   ⟨some 7, .len (.t 6), none⟩,
   ⟨some 8, .fld 1 (.t 2), none⟩,
   ⟨some 9, .load 1 false (.t 8) [], none⟩,
   ⟨some 10, .bin .neq (.t 7) (.t 9), none⟩] (some [1, 2, 10]))
 (.cond (.t 10)
  (.seq
  (.ops false [
    ⟨some 4, .mov (.k (.bool false)), none⟩] (some [4]))
  .ret)
  .skip))
 (.seq
 (.seq
 (.ops false [
   ⟨some 5, .mov (.k (.int 0)), none⟩] (some [1, 2, 5]))
 (.block 0
  (.loop
   (.seq
   (.seq
   (.ops false [
     ⟨some 11, .mov (.t 5), none⟩,
     ⟨some 12, .mov (.t 1), none⟩,
     ⟨some 13, .len (.t 12), none⟩,
     ⟨some 14, .bin .lss (.t 11) (.t 13), none⟩] (some [1, 2, 5, 14]))
   (.cond (.t 14)
    .skip
    (.exit 0)))
   (.seq
   (.block 1
    (.seq
    (.ops true [
      ⟨some 17, .mov (.t 1), none⟩,
      ⟨some 18, .mov (.t 5), none⟩,
      ⟨some 19, .idx 1 (.t 17) (.t 18), none⟩,
      ⟨some 20, .load 1 false (.t 19) [], none⟩,
      ⟨some 21, .fld 0 (.t 2), none⟩,
      ⟨some 22, .load 1 false (.t 21) [], none⟩,
      ⟨some 23, .bin .sub (.t 22) (.k (.int 1)), none⟩,
      ⟨some 24, .call 76 [.t 20, .k (.int 0), .t 23], none⟩,
      ⟨some 25, .not (.t 24), none⟩] (some [1, 2, 5, 25]))
    (.cond (.t 25)
     (.seq
     (.ops false [
       ⟨some 4, .mov (.k (.bool false)), none⟩] (some [4]))
     .ret)
     .skip)))
   (.ops false [
     ⟨some 15, .mov (.t 5), none⟩,
     ⟨some 16, .bin .add (.t 15) (.k (.int 1)), none⟩,
     ⟨some 5, .mov (.t 16), none⟩] (some [1, 2, 5])))))))
 (.seq
 (.ops false [
   ⟨some 4, .mov (.k (.bool true)), none⟩] (some [4]))
 .ret))))

theorem m43 : fmatch Try.prog Try.f43 2 [.tmp 4] v43 = true := by kernel_rfl

/-- steening/steeningref01.Earlier -/
def v44 : VC :=
 (.seq
 (.ops false [
   ⟨some 4, .mov (.k (.bool false)), none⟩] (some [0, 1]))
 (.seq
 (.seq
 (.ops false [
   ⟨some 5, .mov (.k (.int 0)), none⟩] (some [0, 1, 5]))
 (.block 0
  (.loop
   (.seq
   (.seq
   (.ops false [
     ⟨some 6, .mov (.t 5), none⟩,
     ⟨some 7, .mov (.t 0), none⟩,
     ⟨some 8, .len (.t 7), none⟩,
     ⟨some 9, .bin .lss (.t 6) (.t 8), none⟩,
     ⟨some 10, .mov (.t 9), none⟩,
     ⟨some 11, .mov (.t 5), some (10, true)⟩,
     ⟨some 12, .mov (.t 1), some (10, true)⟩,
     ⟨some 13, .len (.t 12), some (10, true)⟩,
     ⟨some 14, .bin .lss (.t 11) (.t 13), some (10, true)⟩,
     ⟨some 15, .pick (.t 10) (.t 14) (.k (.bool false)), none⟩] (some [0, 1, 5, 15]))
   (.cond (.t 15)
    .skip
    (.exit 0)))
   (.seq
   (.block 1
    (.seq
    (.ops true [
      ⟨some 18, .mov (.t 0), none⟩,
      ⟨some 19, .mov (.t 5), none⟩,
      ⟨some 20, .idx 1 (.t 18) (.t 19), none⟩,
      ⟨some 21, .load 1 false (.t 20) [], none⟩,
      ⟨some 22, .mov (.t 1), none⟩,
      ⟨some 23, .mov (.t 5), none⟩,
      ⟨some 24, .idx 1 (.t 22) (.t 23), none⟩,
      ⟨some 25, .load 1 false (.t 24) [], none⟩,
      ⟨some 26, .bin .neq (.t 21) (.t 25), none⟩] (some [0, 1, 5, 26]))
    (.cond (.t 26)
     (.seq
     (.ops true [
       ⟨some 27, .mov (.t 0), none⟩,
       ⟨some 28, .mov (.t 5), none⟩,
       ⟨some 29, .idx 1 (.t 27) (.t 28), none⟩,
       ⟨some 30, .load 1 false (.t 29) [], none⟩,
       ⟨some 31, .mov (.t 1), none⟩,
       ⟨some 32, .mov (.t 5), none⟩,
       ⟨some 33, .idx 1 (.t 31) (.t 32), none⟩,
       ⟨some 34, .load 1 false (.t 33) [], none⟩,
       ⟨some 35, .bin .lss (.t 30) (.t 34), none⟩,
       ⟨some 4, .mov (.t 35), none⟩] (some [4]))
     .ret)
     .skip)))
   (.ops false [
     ⟨some 16, .mov (.t 5), none⟩,
     ⟨some 17, .bin .add (.t 16) (.k (.int 1)), none⟩,
     ⟨some 5, .mov (.t 17), none⟩] (some [0, 1, 5])))))))
 (.seq
 (.ops false [
   ⟨some 4, .mov (.k (.bool false)), none⟩] (some [4]))
 .ret)))

theorem m44 : fmatch Try.prog Try.f44 2 [.tmp 4] v44 = true := by kernel_rfl

/-- steening/knots.Read -/
def v45 : VC :=
 (.seq
 (.ops false [
   ⟨some 2, .box 2 4 (.t 0), none⟩,
   ⟨some 4, .mov (.k (.int 0)), none⟩,
   ⟨some 5, .mov (.k (.int 0)), none⟩] (some [1, 2]))
 (.seq
 (.seq
 (.ops true [
   ⟨some 7, .load 4 true (.t 2) [], none⟩,
   ⟨some 8, .load 4 true (.t 2) [], none⟩,
   ⟨some 9, .mov (.t 1), none⟩,
   ⟨some 10, .call 88 [.t 8, .t 9], none⟩,
   ⟨some 11, .call 85 [.t 7, .t 10], none⟩,
   ⟨some 6, .mov (.t 11), none⟩] (some [1, 2, 6]))
 (.seq
 (.ops false [
   ⟨some 12, .mov (.t 6), none⟩,
   ⟨some 13, .bin .neq (.t 12) (.k (.int 0)), none⟩] (some [1, 2, 6, 13]))
 (.cond (.t 13)
  (.seq
  (.ops false [
    ⟨some 14, .mov (.t 6), none⟩,
    ⟨some 4, .mov (.k (.int 0)), none⟩,
    ⟨some 5, .mov (.t 14), none⟩] (some [4, 5]))
  .ret)
  .skip)))
 (.seq
 (.ops false [
   ⟨some 15, .fld 0 (.t 2), none⟩,
   ⟨some 16, .load 1 false (.t 15) [], none⟩,
   ⟨some 17, .mov (.t 1), none⟩,
   ⟨some 18, .call 81 [.t 16, .t 17], none⟩,
   ⟨some 4, .mov (.t 18), none⟩,
   ⟨some 5, .mov (.k (.int 0)), none⟩] (some [4, 5]))
 .ret)))

theorem m45 : fmatch Try.prog Try.f45 2 [.tmp 4, .tmp 5] v45 = true := by kernel_rfl

/-- steening/steeningref11.ReadOf -/
def v46 : VC :=
 (.seq
 (.ops false [
   ⟨some 2, .box 2 4 (.t 0), none⟩,
   ⟨some 4, .mov (.k (.int 0)), none⟩] (some [1, 2]))
 (.seq
 (.ops false [
   ⟨some 5, .mov (.k (.int 0)), none⟩] (some [1, 2, 5]))
 (.seq
 (.seq
 (.ops false [
   ⟨some 6, .mov (.k (.int 0)), none⟩] (some [1, 2, 5, 6]))
 (.block 0
  (.loop
   (.seq
   (.seq
   (.ops false [
     ⟨some 7, .mov (.t 6), none⟩,
     ⟨some 8, .mov (.t 1), none⟩,
     ⟨some 9, .len (.t 8), none⟩,
     ⟨some 10, .bin .lss (.t 7) (.t 9), none⟩] (some [1, 2, 5, 6, 10]))
   (.cond (.t 10)
    .skip
    (.exit 0)))
   (.seq
   (.block 1
    (.ops true [
      ⟨some 13, .mov (.t 5), none⟩,
      ⟨some 14, .fld 0 (.t 2), none⟩,
      ⟨some 15, .load 1 false (.t 14) [], none⟩,
      ⟨some 16, .bin .mul (.t 13) (.t 15), none⟩,
      ⟨some 17, .mov (.t 1), none⟩,
      ⟨some 18, .mov (.t 6), none⟩,
      ⟨some 19, .idx 1 (.t 17) (.t 18), none⟩,
      ⟨some 20, .load 1 false (.t 19) [], none⟩,
      ⟨some 21, .bin .add (.t 16) (.t 20), none⟩,
      ⟨some 5, .mov (.t 21), none⟩] (some [1, 2, 5, 6])))
   (.ops false [
     ⟨some 11, .mov (.t 6), none⟩,
     ⟨some 12, .bin .add (.t 11) (.k (.int 1)), none⟩,
     ⟨some 6, .mov (.t 12), none⟩] (some [1, 2, 5, 6])))))))
 (.seq
 (.ops false [
   ⟨some 22, .mov (.t 5), none⟩,
   ⟨some 4, .mov (.t 22), none⟩] (some [4]))
 .ret))))

theorem m46 : fmatch Try.prog Try.f46 2 [.tmp 4] v46 = true := by kernel_rfl

/-- steening/knots.Carry -/
def v47 : VC :=
 (.seq
 (.ops false [
   ⟨some 2, .box 2 4 (.t 0), none⟩,
   ⟨some 3, .box 3 1 (.t 1), none⟩,
   ⟨some 4, .alloc 4 [.int 0, .int 0], none⟩,
   ⟨some 5, .mov (.k (.int 0)), none⟩] (some [2, 3, 4]))
 (.seq
 (.ops true [
   ⟨some 11, .load 4 true (.t 2) [6], none⟩,
   ⟨some 12, .load 4 true (.t 2) [6], none⟩,
   ⟨some 13, .load 1 false (.t 3) [6], none⟩,
   ⟨some 14, .call 84 [.t 12, .t 13], none⟩,
   ⟨some 15, .call 77 [.t 11, .t 14], none⟩,
   ⟨some 10, .mov (.t 15), none⟩,
   ⟨some 16, .ext (.t 10) 0, none⟩,
   ⟨some 17, .ext (.t 10) 1, none⟩,
   ⟨some 6, .alloc 6 [.int 0, .int 0, .sl 1 [] .full, .sl 2 [] .full, .und, .und], none⟩,
   ⟨none, .store 6 (.t 6) (.t 16) (some 6), none⟩,
   ⟨some 7, .mov (.t 17), none⟩] (some [3, 4, 6, 7]))
 (.seq
 (.seq
 (.ops false [
   ⟨some 18, .mov (.t 7), none⟩,
   ⟨some 19, .bin .neq (.t 18) (.k (.int 0)), none⟩] (some [3, 4, 6, 7, 19]))
 (.cond (.t 19)
  (.seq
  (.ops false [
    ⟨some 20, .build [.int 0, .int 0] [], none⟩,
    ⟨some 21, .mov (.t 7), none⟩,
    ⟨none, .store 2 (.t 4) (.t 20) (some 4), none⟩,
    ⟨some 5, .mov (.t 21), none⟩] (some [4, 5]))
  .ret)
  .skip))
 (.seq
 (.ops false [
   ⟨some 22, .build [.int 0, .int 0] [(0, 1, .k (.int 51))], none⟩,
   ⟨some 8, .alloc 8 [.int 0, .int 0], none⟩,
   ⟨none, .store 2 (.t 8) (.t 22) (some 8), none⟩] (some [3, 4, 6, 8]))
 (.seq
 (.seq
 (.ops false [
   ⟨some 23, .mov (.k (.int 0)), none⟩] (some [3, 4, 6, 8, 23]))
 (.block 0
  (.loop
   (.seq
   (.ops false [
     ⟨some 24, .bin .lss (.t 23) (.k (.int 51)), none⟩] (some [3, 4, 6, 8, 23, 24]))
   (.seq
   (.cond (.t 24)
    .skip
    (.exit 0))
   (.seq
   (.block 1
    (.seq
    (.ops false [
      ⟨some 25, .mov (.t 23), none⟩,
      ⟨some 9, .alloc 9 [.int 0], none⟩,
      ⟨none, .store 1 (.t 9) (.t 25) (some 9), none⟩] (some [3, 4, 6, 8, 9, 23]))
    (.seq
    (.ops false [
      ⟨some 26, .mkf 89 [.t 3, .t 9], none⟩,
      ⟨some 27, .fld 5 (.t 6), none⟩,
      ⟨none, .store 1 (.t 27) (.t 26) (some 6), none⟩] (some [3, 4, 6, 8, 9, 23]))
    (.seq
    (.ops false [
      ⟨some 28, .load 6 true (.t 6) [], none⟩,
      ⟨some 29, .call 65 [.t 28], none⟩,
      ⟨some 30, .bin .gtr (.t 29) (.k (.int 0)), none⟩] (some [3, 4, 6, 8, 9, 23, 30]))
    (.cond (.t 30)
     (.ops false [
       ⟨some 31, .fld 0 (.t 8), none⟩,
       ⟨some 32, .load 1 false (.t 31) [], none⟩,
       ⟨some 33, .load 1 false (.t 9) [], none⟩,
       ⟨some 34, .min (.t 32) (.t 33), none⟩,
       ⟨some 35, .load 1 false (.t 9) [], none⟩,
       ⟨some 36, .build [.int 0, .int 0] [(0, 1, .t 34), (1, 1, .t 35)], none⟩,
       ⟨none, .store 2 (.t 8) (.t 36) (some 8), none⟩] (some [3, 4, 6, 8, 23]))
     .skip)))))
   (.ops false [
     ⟨some 37, .bin .add (.t 23) (.k (.int 1)), none⟩,
     ⟨some 23, .mov (.t 37), none⟩] (some [3, 4, 6, 8, 23]))))))))
 (.seq
 (.ops false [
   ⟨some 38, .load 2 true (.t 8) [], none⟩,
   ⟨none, .store 2 (.t 4) (.t 38) (some 4), none⟩,
   ⟨some 5, .mov (.k (.int 0)), none⟩] (some [4, 5]))
 .ret))))))

theorem m47 : fmatch Try.prog Try.f47 2 [.cell 4 42, .tmp 5] v47 = true := by kernel_rfl

/-- steening/steeninglaw11.Huge -/
def v48 : VC :=
 (.seq
 (.ops false [
   ⟨some 1, .box 1 4 (.t 0), none⟩,
   ⟨some 2, .mov (.k (.bool false)), none⟩] (some [1]))
 (.seq
 (.seq
 (.ops false [
   ⟨some 4, .fld 2 (.t 1), none⟩,
   ⟨some 5, .load 1 false (.t 4) [], none⟩,
   ⟨some 6, .len (.t 5), none⟩,
   ⟨some 7, .bin .gtr (.t 6) (.k (.int 40)), none⟩,
   ⟨some 8, .mov (.t 7), none⟩,
   ⟨some 9, .fld 3 (.t 1), some (8, false)⟩,
   ⟨some 10, .load 1 false (.t 9) [], some (8, false)⟩,
   ⟨some 11, .len (.t 10), some (8, false)⟩,
   ⟨some 12, .bin .gtr (.t 11) (.k (.int 40)), some (8, false)⟩,
   ⟨some 13, .pick (.t 8) (.k (.bool true)) (.t 12), none⟩] (some [1, 13]))
 (.cond (.t 13)
  (.seq
  (.ops false [
    ⟨some 2, .mov (.k (.bool true)), none⟩] (some [2]))
  .ret)
  .skip))
 (.seq
 (.seq
 (.ops false [
   ⟨some 3, .mov (.k (.int 0)), none⟩] (some [1, 3]))
 (.block 0
  (.loop
   (.seq
   (.seq
   (.ops false [
     ⟨some 14, .mov (.t 3), none⟩,
     ⟨some 15, .fld 2 (.t 1), none⟩,
     ⟨some 16, .load 1 false (.t 15) [], none⟩,
     ⟨some 17, .len (.t 16), none⟩,
     ⟨some 18, .bin .lss (.t 14) (.t 17), none⟩] (some [1, 3, 18]))
   (.cond (.t 18)
    .skip
    (.exit 0)))
   (.seq
   (.block 1
    (.seq
    (.ops false [
      ⟨some 21, .fld 2 (.t 1), none⟩,
      ⟨some 22, .load 1 false (.t 21) [], none⟩,
      ⟨some 23, .mov (.t 3), none⟩,
      ⟨some 24, .idx 1 (.t 22) (.t 23), none⟩,
      ⟨some 25, .load 1 false (.t 24) [], none⟩,
      ⟨some 26, .len (.t 25), none⟩,
      ⟨some 27, .bin .gtr (.t 26) (.k (.int 40)), none⟩] (some [1, 3, 27]))
    (.cond (.t 27)
     (.seq
     (.ops false [
       ⟨some 2, .mov (.k (.bool true)), none⟩] (some [2]))
     .ret)
     .skip)))
   (.ops false [
     ⟨some 19, .mov (.t 3), none⟩,
     ⟨some 20, .bin .add (.t 19) (.k (.int 1)), none⟩,
     ⟨some 3, .mov (.t 20), none⟩] (some [1, 3])))))))
 (.seq
 (.ops false [
   ⟨some 2, .mov (.k (.bool false)), none⟩] (some [2]))
 .ret))))

theorem m48 : fmatch Try.prog Try.f48 1 [.tmp 2] v48 = true := by kernel_rfl

/-- steening/knots.Check -/
def v49 : VC :=
 (.seq
 (.ops false [
   ⟨some 1, .box 1 4 (.t 0), none⟩,
   ⟨some 2, .mov (.k (.int 0)), none⟩] (some [1]))
 (.seq
 (.ops false [
   ⟨some 4, .mkf 90 [.t 1], none⟩,
   ⟨some 3, .mov (.t 4), none⟩] (some [1, 3]))
 (.seq
 (.seq
 (.ops false [
   ⟨some 5, .fld 0 (.t 1), none⟩,
   ⟨some 6, .load 1 false (.t 5) [], none⟩,
   ⟨some 7, .call 86 [.t 6, .k (.int 2), .k (.int 10)], none⟩,
   ⟨some 8, .not (.t 7), none⟩,
   ⟨some 9, .mov (.t 8), none⟩,
   ⟨some 10, .fld 1 (.t 1), some (9, false)⟩,
   ⟨some 11, .load 1 false (.t 10) [], some (9, false)⟩,
   ⟨some 12, .call 86 [.t 11, .k (.int 1), .k (.int 4)], some (9, false)⟩,
   ⟨some 13, .not (.t 12), some (9, false)⟩,
   ⟨some 14, .pick (.t 9) (.k (.bool true)) (.t 13), none⟩,
   ⟨some 15, .mov (.t 14), none⟩,
   ⟨some 16, .fld 2 (.t 1), some (15, false)⟩,
   ⟨some 17, .load 1 false (.t 16) [], some (15, false)⟩,
   ⟨some 18, .len (.t 17), some (15, false)⟩,
   ⟨some 19, .bin .gtr (.t 18) (.k (.int 4)), some (15, false)⟩,
   ⟨some 20, .pick (.t 15) (.k (.bool true)) (.t 19), none⟩,
   ⟨some 21, .mov (.t 20), none⟩,
   ⟨some 22, .fld 2 (.t 1), some (21, false)⟩,
   ⟨some 23, .load 1 false (.t 22) [], some (21, false)⟩,
   ⟨some 24, .mov (.t 3), some (21, false)⟩,
   ⟨some 25, .call 92 [.t 23, .t 24], some (21, false)⟩,
   ⟨some 26, .pick (.t 21) (.k (.bool true)) (.t 25), none⟩,
   ⟨some 27, .mov (.t 26), none⟩,
   ⟨some 28, .mov (.t 3), some (27, false)⟩,
   ⟨some 29, .fld 3 (.t 1), some (27, false)⟩,
   ⟨some 30, .load 1 false (.t 29) [], some (27, false)⟩,
   ⟨some 31, .callv (.t 28) [.t 30], some (27, false)⟩,
   ⟨some 32, .pick (.t 27) (.k (.bool true)) (.t 31), none⟩] (some [32]))
 (.cond (.t 32)
  (.seq
  (.ops false [
    ⟨some 2, .mov (.k (.int 110)), none⟩] (some [2]))
  .ret)
  .skip))
 (.seq
 (.ops false [
   ⟨some 2, .mov (.k (.int 0)), none⟩] (some [2]))
 .ret))))

theorem m49 : fmatch Try.prog Try.f49 1 [.tmp 2] v49 = true := by kernel_rfl

/-- steening/steeningref11.Check -/
def v50 : VC :=
 (.seq
 (.ops false [
   ⟨some 1, .box 1 4 (.t 0), none⟩,
   ⟨some 2, .mov (.k (.int 0)), none⟩] (some [1]))
 (.seq
 (.seq
 (.ops false [
   ⟨some 4, .fld 0 (.t 1), none⟩,
   ⟨some 5, .load 1 false (.t 4) [], none⟩,
   ⟨some 6, .call 76 [.t 5, .k (.int 2), .k (.int 10)], none⟩,
   ⟨some 7, .not (.t 6), none⟩,
   ⟨some 8, .mov (.t 7), none⟩,
   ⟨some 9, .fld 1 (.t 1), some (8, false)⟩,
   ⟨some 10, .load 1 false (.t 9) [], some (8, false)⟩,
   ⟨some 11, .call 76 [.t 10, .k (.int 1), .k (.int 4)], some (8, false)⟩,
   ⟨some 12, .not (.t 11), some (8, false)⟩,
   ⟨some 13, .pick (.t 8) (.k (.bool true)) (.t 12), none⟩,
   ⟨some 14, .mov (.t 13), none⟩,
   ⟨some 15, .fld 2 (.t 1), some (14, false)⟩,
   ⟨some 16, .load 1 false (.t 15) [], some (14, false)⟩,
   ⟨some 17, .len (.t 16), some (14, false)⟩,
   ⟨some 18, .bin .gtr (.t 17) (.k (.int 4)), some (14, false)⟩,
   ⟨some 19, .pick (.t 14) (.k (.bool true)) (.t 18), none⟩,
   ⟨some 20, .mov (.t 19), none⟩,
   ⟨some 21, .load 4 true (.t 1) [], some (20, false)⟩,
   ⟨some 22, .fld 3 (.t 1), some (20, false)⟩,
   ⟨some 23, .load 1 false (.t 22) [], some (20, false)⟩,
   ⟨some 24, .call 93 [.t 21, .t 23], some (20, false)⟩,
   ⟨some 25, .not (.t 24), some (20, false)⟩,
   ⟨some 26, .pick (.t 20) (.k (.bool true)) (.t 25), none⟩] (some [1, 26]))
 (.cond (.t 26)
  (.seq
  (.ops false [
    ⟨some 2, .mov (.k (.int 110)), none⟩] (some [2]))
  .ret)
  .skip))
 (.seq
 (.seq
 (.ops false [
   ⟨some 3, .mov (.k (.int 0)), none⟩] (some [1, 3]))
 (.block 0
  (.loop
   (.seq
   (.seq
   (.ops false [
     ⟨some 27, .mov (.t 3), none⟩,
     ⟨some 28, .fld 2 (.t 1), none⟩,
     ⟨some 29, .load 1 false (.t 28) [], none⟩,
     ⟨some 30, .len (.t 29), none⟩,
     ⟨some 31, .bin .lss (.t 27) (.t 30), none⟩] (some [1, 3, 31]))
   (.cond (.t 31)
    .skip
    (.exit 0)))
   (.seq
   (.block 1
    (.seq
    (.ops true [
      ⟨some 34, .load 4 true (.t 1) [], none⟩,
      ⟨some 35, .fld 2 (.t 1), none⟩,
      ⟨some 36, .load 1 false (.t 35) [], none⟩,
      ⟨some 37, .mov (.t 3), none⟩,
      ⟨some 38, .idx 1 (.t 36) (.t 37), none⟩,
      ⟨some 39, .load 1 false (.t 38) [], none⟩,
      ⟨some 40, .call 93 [.t 34, .t 39], none⟩,
      ⟨some 41, .not (.t 40), none⟩] (some [1, 3, 41]))
    (.cond (.t 41)
     (.seq
     (.ops false [
       ⟨some 2, .mov (.k (.int 110)), none⟩] (some [2]))
     .ret)
     .skip)))
   (.ops false [
     ⟨some 32, .mov (.t 3), none⟩,
     ⟨some 33, .bin .add (.t 32) (.k (.int 1)), none⟩,
     ⟨some 3, .mov (.t 33), none⟩] (some [1, 3])))))))
 (.seq
 (.ops false [
   ⟨some 2, .mov (.k (.int 0)), none⟩] (some [2]))
 .ret))))

theorem m50 : fmatch Try.prog Try.f50 1 [.tmp 2] v50 = true := by kernel_rfl

/-- steening/steeningref11.Tie -/
def v51 : VC :=
 (.seq
 (.ops false [
   ⟨some 2, .box 2 4 (.t 0), none⟩,
   ⟨some 4, .nils 4 1, none⟩,
   ⟨some 5, .mov (.k (.int 0)), none⟩] (some [1, 2]))
 (.seq
 (.seq
 (.ops false [
   ⟨some 7, .load 4 true (.t 2) [], none⟩,
   ⟨some 8, .call 50 [.t 7], none⟩,
   ⟨some 6, .mov (.t 8), none⟩] (some [1, 2, 6]))
 (.seq
 (.ops false [
   ⟨some 9, .mov (.t 6), none⟩,
   ⟨some 10, .bin .neq (.t 9) (.k (.int 0)), none⟩] (some [1, 2, 6, 10]))
 (.cond (.t 10)
  (.seq
  (.ops false [
    ⟨some 11, .mov (.t 6), none⟩,
    ⟨some 4, .nils 501 1, none⟩,
    ⟨some 5, .mov (.t 11), none⟩] (some [4, 5]))
  .ret)
  .skip)))
 (.seq
 (.seq
 (.ops false [
   ⟨some 12, .mov (.t 1), none⟩,
   ⟨some 13, .load 4 true (.t 2) [], none⟩,
   ⟨some 14, .call 41 [.t 13], none⟩,
   ⟨some 15, .bin .sub (.t 14) (.k (.int 1)), none⟩,
   ⟨some 16, .call 76 [.t 12, .k (.int 0), .t 15], none⟩,
   ⟨some 17, .not (.t 16), none⟩] (some [1, 2, 17]))
 (.cond (.t 17)
  (.seq
  (.ops false [
    ⟨some 4, .nils 502 1, none⟩,
    ⟨some 5, .mov (.k (.int 1)), none⟩] (some [4, 5]))
  .ret)
  .skip))
 (.seq
 (.ops false [
   ⟨some 18, .load 4 true (.t 2) [], none⟩,
   ⟨some 19, .mov (.t 1), none⟩,
   ⟨some 20, .call 69 [.t 18, .t 19], none⟩,
   ⟨some 4, .mov (.t 20), none⟩,
   ⟨some 5, .mov (.k (.int 0)), none⟩] (some [4, 5]))
 .ret))))

theorem m51 : fmatch Try.prog Try.f51 2 [.tmp 4, .tmp 5] v51 = true := by kernel_rfl

/-- steening/steeningref11.Read -/
def v52 : VC :=
 (.seq
 (.ops false [
   ⟨some 2, .box 2 4 (.t 0), none⟩,
   ⟨some 4, .mov (.k (.int 0)), none⟩,
   ⟨some 5, .mov (.k (.int 0)), none⟩] (some [1, 2]))
 (.seq
 (.seq
 (.ops false [
   ⟨some 7, .load 4 true (.t 2) [], none⟩,
   ⟨some 8, .call 50 [.t 7], none⟩,
   ⟨some 6, .mov (.t 8), none⟩] (some [1, 2, 6]))
 (.seq
 (.ops false [
   ⟨some 9, .mov (.t 6), none⟩,
   ⟨some 10, .bin .neq (.t 9) (.k (.int 0)), none⟩] (some [1, 2, 6, 10]))
 (.cond (.t 10)
  (.seq
  (.ops false [
    ⟨some 11, .mov (.t 6), none⟩,
    ⟨some 4, .mov (.k (.int 0)), none⟩,
    ⟨some 5, .mov (.t 11), none⟩] (some [4, 5]))
  .ret)
  .skip)))
 (.seq
 (.seq
 (.ops false [
   ⟨some 12, .load 4 true (.t 2) [], none⟩,
   ⟨some 13, .mov (.t 1), none⟩,
   ⟨some 14, .call 43 [.t 12, .t 13], none⟩,
   ⟨some 15, .not (.t 14), none⟩] (some [1, 2, 15]))
 (.cond (.t 15)
  (.seq
  (.ops false [
    ⟨some 4, .mov (.k (.int 0)), none⟩,
    ⟨some 5, .mov (.k (.int 1)), none⟩] (some [4, 5]))
  .ret)
  .skip))
 (.seq
 (.ops false [
   ⟨some 16, .load 4 true (.t 2) [], none⟩,
   ⟨some 17, .mov (.t 1), none⟩,
   ⟨some 18, .call 46 [.t 16, .t 17], none⟩,
   ⟨some 4, .mov (.t 18), none⟩,
   ⟨some 5, .mov (.k (.int 0)), none⟩] (some [4, 5]))
 .ret))))

theorem m52 : fmatch Try.prog Try.f52 2 [.tmp 4, .tmp 5] v52 = true := by kernel_rfl

/-- steening/knots.Cord -/
def v53 : VC :=
 (.seq
 (.ops false [
   ⟨some 2, .box 2 4 (.t 0), none⟩,
   ⟨some 4, .alloc 4 [.int 0, .int 0], none⟩,
   ⟨some 5, .mov (.k (.int 0)), none⟩] (some [1, 2, 4]))
 (.seq
 (.seq
 (.ops true [
   ⟨some 7, .load 4 true (.t 2) [], none⟩,
   ⟨some 8, .load 4 true (.t 2) [], none⟩,
   ⟨some 9, .mov (.t 1), none⟩,
   ⟨some 10, .call 78 [.t 8, .t 9], none⟩,
   ⟨some 11, .call 85 [.t 7, .t 10], none⟩,
   ⟨some 6, .mov (.t 11), none⟩] (some [1, 2, 4, 6]))
 (.seq
 (.ops false [
   ⟨some 12, .mov (.t 6), none⟩,
   ⟨some 13, .bin .neq (.t 12) (.k (.int 0)), none⟩] (some [1, 2, 4, 6, 13]))
 (.cond (.t 13)
  (.seq
  (.ops false [
    ⟨some 14, .build [.int 0, .int 0] [], none⟩,
    ⟨some 15, .mov (.t 6), none⟩,
    ⟨none, .store 2 (.t 4) (.t 14) (some 4), none⟩,
    ⟨some 5, .mov (.t 15), none⟩] (some [4, 5]))
  .ret)
  .skip)))
 (.seq
 (.ops true [
   ⟨some 16, .fld 0 (.t 2), none⟩,
   ⟨some 17, .load 1 false (.t 16) [4], none⟩,
   ⟨some 18, .load 4 true (.t 2) [4], none⟩,
   ⟨some 19, .call 66 [.t 18], none⟩,
   ⟨some 20, .mov (.t 1), none⟩,
   ⟨some 21, .idx 1 (.t 19) (.t 20), none⟩,
   ⟨some 22, .load 1 false (.t 21) [4], none⟩,
   ⟨some 23, .call 94 [.t 17, .t 22], none⟩,
   ⟨none, .store 2 (.t 4) (.t 23) (some 4), none⟩,
   ⟨some 5, .mov (.k (.int 0)), none⟩] (some [4, 5]))
 .ret)))

theorem m53 : fmatch Try.prog Try.f53 2 [.cell 4 42, .tmp 5] v53 = true := by kernel_rfl

/-- steening/steeningref11.Cord -/
def v54 : VC :=
 (.seq
 (.ops false [
   ⟨some 2, .box 2 4 (.t 0), none⟩,
   ⟨some 4, .alloc 4 [.int 0, .int 0], none⟩,
   ⟨some 5, .mov (.k (.int 0)), none⟩] (some [1, 2, 4]))
 (.seq
 (.seq
 (.ops true [
   ⟨some 11, .load 4 true (.t 2) [], none⟩,
   ⟨some 12, .load 4 true (.t 2) [], none⟩,
   ⟨some 13, .mov (.t 1), none⟩,
   ⟨some 14, .call 29 [.t 12, .t 13], none⟩,
   ⟨some 15, .call 95 [.t 11, .t 14], none⟩,
   ⟨some 6, .mov (.t 15), none⟩] (some [1, 2, 4, 6]))
 (.seq
 (.ops false [
   ⟨some 16, .mov (.t 6), none⟩,
   ⟨some 17, .bin .neq (.t 16) (.k (.int 0)), none⟩] (some [1, 2, 4, 6, 17]))
 (.cond (.t 17)
  (.seq
  (.ops false [
    ⟨some 18, .build [.int 0, .int 0] [], none⟩,
    ⟨some 19, .mov (.t 6), none⟩,
    ⟨none, .store 2 (.t 4) (.t 18) (some 4), none⟩,
    ⟨some 5, .mov (.t 19), none⟩] (some [4, 5]))
  .ret)
  .skip)))
 (.seq
 (.ops false [
   ⟨some 20, .load 4 true (.t 2) [], none⟩,
   ⟨some 21, .mov (.t 1), none⟩,
   ⟨some 22, .call 32 [.t 20, .t 21], none⟩,
   ⟨some 7, .mov (.t 22), none⟩] (some [2, 4, 7]))
 (.seq
 (.ops false [
   ⟨some 8, .nils 8 1, none⟩,
   ⟨some 9, .nils 9 1, none⟩] (some [2, 4, 7, 8, 9]))
 (.seq
 (.seq
 (.ops false [
   ⟨some 10, .mov (.k (.int 0)), none⟩] (some [2, 4, 7, 8, 9, 10]))
 (.block 0
  (.loop
   (.seq
   (.seq
   (.ops false [
     ⟨some 23, .mov (.t 10), none⟩,
     ⟨some 24, .mov (.t 7), none⟩,
     ⟨some 25, .len (.t 24), none⟩,
     ⟨some 26, .bin .lss (.t 23) (.t 25), none⟩] (some [2, 4, 7, 8, 9, 10, 26]))
   (.cond (.t 26)
    .skip
    (.exit 0)))
   (.seq
   (.block 1
    (.ops true [
      ⟨some 29, .mov (.t 8), none⟩,
      ⟨some 30, .mov (.t 7), none⟩,
      ⟨some 31, .mov (.t 10), none⟩,
      ⟨some 32, .idx 2 (.t 30) (.t 31), none⟩,
      ⟨some 33, .fld 0 (.t 32), none⟩,
      ⟨some 34, .load 1 false (.t 33) [], none⟩,
      ⟨some 35, .bslice 1 [.t 34], none⟩,
      ⟨some 36, .app 36 1 8 (.t 29) (.t 35), none⟩,
      ⟨some 37, .mov (.t 9), none⟩,
      ⟨some 38, .mov (.t 7), none⟩,
      ⟨some 39, .mov (.t 10), none⟩,
      ⟨some 40, .idx 2 (.t 38) (.t 39), none⟩,
      ⟨some 41, .fld 1 (.t 40), none⟩,
      ⟨some 42, .load 1 false (.t 41) [], none⟩,
      ⟨some 43, .bslice 1 [.t 42], none⟩,
      ⟨some 44, .app 44 1 8 (.t 37) (.t 43), none⟩,
      ⟨some 8, .mov (.t 36), none⟩,
      ⟨some 9, .mov (.t 44), none⟩] (some [2, 4, 7, 8, 9, 10])))
   (.ops false [
     ⟨some 27, .mov (.t 10), none⟩,
     ⟨some 28, .bin .add (.t 27) (.k (.int 1)), none⟩,
     ⟨some 10, .mov (.t 28), none⟩] (some [2, 4, 7, 8, 9, 10])))))))
 (.seq
 (.ops true [
   ⟨some 45, .load 4 true (.t 2) [4], none⟩,
   ⟨some 46, .mov (.t 8), none⟩,
   ⟨some 47, .call 46 [.t 45, .t 46], none⟩,
   ⟨some 48, .load 4 true (.t 2) [4], none⟩,
   ⟨some 49, .mov (.t 9), none⟩,
   ⟨some 50, .call 46 [.t 48, .t 49], none⟩,
   ⟨some 51, .build [.int 0, .int 0] [(0, 1, .t 47), (1, 1, .t 50)], none⟩,
   ⟨none, .store 2 (.t 4) (.t 51) (some 4), none⟩,
   ⟨some 5, .mov (.k (.int 0)), none⟩] (some [4, 5]))
 .ret))))))

theorem m54 : fmatch Try.prog Try.f54 2 [.cell 4 42, .tmp 5] v54 = true := by kernel_rfl

/-- steening/steeningref11.Many -/
def v55 : VC :=
 (.seq
 (.ops false [
   ⟨some 1, .box 1 4 (.t 0), none⟩,
   ⟨some 2, .mov (.k (.int 0)), none⟩,
   ⟨some 3, .mov (.k (.int 0)), none⟩] (some [1]))
 (.seq
 (.seq
 (.ops false [
   ⟨some 5, .load 4 true (.t 1) [], none⟩,
   ⟨some 6, .call 50 [.t 5], none⟩,
   ⟨some 4, .mov (.t 6), none⟩] (some [1, 4]))
 (.seq
 (.ops false [
   ⟨some 7, .mov (.t 4), none⟩,
   ⟨some 8, .bin .neq (.t 7) (.k (.int 0)), none⟩] (some [1, 4, 8]))
 (.cond (.t 8)
  (.seq
  (.ops false [
    ⟨some 9, .mov (.t 4), none⟩,
    ⟨some 2, .mov (.k (.int 0)), none⟩,
    ⟨some 3, .mov (.t 9), none⟩] (some [2, 3]))
  .ret)
  .skip)))
 (.seq
 (.ops false [
   ⟨some 10, .load 4 true (.t 1) [], none⟩,
   ⟨some 11, .call 68 [.t 10, .k (.sl 1 [] .full), .k (.bool false)], none⟩,
   ⟨some 12, .len (.t 11), none⟩,
   ⟨some 2, .mov (.t 12), none⟩,
   ⟨some 3, .mov (.k (.int 0)), none⟩] (some [2, 3]))
 .ret)))

theorem m55 : fmatch Try.prog Try.f55 1 [.tmp 2, .tmp 3] v55 = true := by kernel_rfl

/-- steening/steeningref11.Sure -/
def v56 : VC :=
 (.seq
 (.ops false [
   ⟨some 2, .box 2 4 (.t 0), none⟩,
   ⟨some 4, .alloc 4 [.int 0, .int 0], none⟩,
   ⟨some 5, .mov (.k (.int 0)), none⟩] (some [1, 2, 4]))
 (.seq
 (.ops true [
   ⟨some 11, .load 4 true (.t 2) [], none⟩,
   ⟨some 12, .load 4 true (.t 2) [], none⟩,
   ⟨some 13, .mov (.t 1), none⟩,
   ⟨some 14, .call 29 [.t 12, .t 13], none⟩,
   ⟨some 15, .call 96 [.t 11, .t 14], none⟩,
   ⟨some 10, .mov (.t 15), none⟩,
   ⟨some 16, .ext (.t 10) 0, none⟩,
   ⟨some 17, .ext (.t 10) 1, none⟩,
   ⟨some 6, .mov (.t 16), none⟩,
   ⟨some 7, .mov (.t 17), none⟩] (some [1, 4, 6, 7]))
 (.seq
 (.seq
 (.ops false [
   ⟨some 18, .mov (.t 7), none⟩,
   ⟨some 19, .bin .neq (.t 18) (.k (.int 0)), none⟩] (some [1, 4, 6, 7, 19]))
 (.cond (.t 19)
  (.seq
  (.ops false [
    ⟨some 20, .build [.int 0, .int 0] [], none⟩,
    ⟨some 21, .mov (.t 7), none⟩,
    ⟨none, .store 2 (.t 4) (.t 20) (some 4), none⟩,
    ⟨some 5, .mov (.t 21), none⟩] (some [4, 5]))
  .ret)
  .skip))
 (.seq
 (.ops false [
   ⟨some 8, .nils 8 1, none⟩] (some [1, 4, 6, 8]))
 (.seq
 (.seq
 (.ops false [
   ⟨some 9, .mov (.k (.int 0)), none⟩] (some [1, 4, 6, 8, 9]))
 (.block 0
  (.loop
   (.seq
   (.seq
   (.ops false [
     ⟨some 22, .mov (.t 9), none⟩,
     ⟨some 23, .mov (.t 6), none⟩,
     ⟨some 24, .len (.t 23), none⟩,
     ⟨some 25, .bin .lss (.t 22) (.t 24), none⟩] (some [1, 4, 6, 8, 9, 25]))
   (.cond (.t 25)
    .skip
    (.exit 0)))
   (.seq
   (.block 1
    (.ops false [
      ⟨some 28, .mov (.t 8), none⟩,
      ⟨some 29, .mov (.t 6), none⟩,
      ⟨some 30, .mov (.t 9), none⟩,
      ⟨some 31, .idx 1 (.t 29) (.t 30), none⟩,
      ⟨some 32, .load 1 false (.t 31) [], none⟩,
      ⟨some 33, .mov (.t 1), none⟩,
      ⟨some 34, .idx 1 (.t 32) (.t 33), none⟩,
      ⟨some 35, .load 1 false (.t 34) [], none⟩,
      ⟨some 36, .bslice 1 [.t 35], none⟩,
      ⟨some 37, .app 37 1 8 (.t 28) (.t 36), none⟩,
      ⟨some 8, .mov (.t 37), none⟩] (some [1, 4, 6, 8, 9])))
   (.ops false [
     ⟨some 26, .mov (.t 9), none⟩,
     ⟨some 27, .bin .add (.t 26) (.k (.int 1)), none⟩,
     ⟨some 9, .mov (.t 27), none⟩] (some [1, 4, 6, 8, 9])))))))
 (.seq
 (.ops false [
   ⟨some 38, .mov (.t 8), none⟩,
   ⟨some 39, .call 97 [.t 38], none⟩,
   ⟨none, .store 2 (.t 4) (.t 39) (some 4), none⟩,
   ⟨some 5, .mov (.k (.int 0)), none⟩] (some [4, 5]))
 .ret))))))

theorem m56 : fmatch Try.prog Try.f56 2 [.cell 4 42, .tmp 5] v56 = true := by kernel_rfl

/-- steening/steeningref11.Cluster -/
def v57 : VC :=
 (.seq
 (.ops false [
   ⟨some 3, .box 3 4 (.t 0), none⟩,
   ⟨some 6, .alloc 6 [.int 0, .int 0], none⟩,
   ⟨some 7, .mov (.k (.int 0)), none⟩] (some [1, 2, 3, 6]))
 (.seq
 (.ops true [
   ⟨some 13, .load 4 true (.t 3) [], none⟩,
   ⟨some 14, .load 4 true (.t 3) [], none⟩,
   ⟨some 15, .mov (.t 1), none⟩,
   ⟨some 16, .call 29 [.t 14, .t 15], none⟩,
   ⟨some 17, .mov (.t 16), none⟩,
   ⟨some 18, .load 4 true (.t 3) [], some (17, true)⟩,
   ⟨some 19, .mov (.t 2), some (17, true)⟩,
   ⟨some 20, .call 30 [.t 18, .t 19], some (17, true)⟩,
   ⟨some 21, .pick (.t 17) (.t 20) (.k (.bool false)), none⟩,
   ⟨some 22, .call 96 [.t 13, .t 21], none⟩,
   ⟨some 12, .mov (.t 22), none⟩,
   ⟨some 23, .ext (.t 12) 0, none⟩,
   ⟨some 24, .ext (.t 12) 1, none⟩,
   ⟨some 8, .mov (.t 23), none⟩,
   ⟨some 9, .mov (.t 24), none⟩] (some [1, 2, 3, 6, 8, 9]))
 (.seq
 (.seq
 (.ops false [
   ⟨some 25, .mov (.t 9), none⟩,
   ⟨some 26, .bin .neq (.t 25) (.k (.int 0)), none⟩] (some [1, 2, 3, 6, 8, 9, 26]))
 (.cond (.t 26)
  (.seq
  (.ops false [
    ⟨some 27, .build [.int 0, .int 0] [], none⟩,
    ⟨some 28, .mov (.t 9), none⟩,
    ⟨none, .store 2 (.t 6) (.t 27) (some 6), none⟩,
    ⟨some 7, .mov (.t 28), none⟩] (some [6, 7]))
  .ret)
  .skip))
 (.seq
 (.ops false [
   ⟨some 10, .nils 10 1, none⟩] (some [1, 2, 3, 6, 8, 10]))
 (.seq
 (.seq
 (.ops false [
   ⟨some 11, .mov (.k (.int 0)), none⟩] (some [1, 2, 3, 6, 8, 10, 11]))
 (.block 0
  (.loop
   (.seq
   (.seq
   (.ops false [
     ⟨some 29, .mov (.t 11), none⟩,
     ⟨some 30, .mov (.t 8), none⟩,
     ⟨some 31, .len (.t 30), none⟩,
     ⟨some 32, .bin .lss (.t 29) (.t 31), none⟩] (some [1, 2, 3, 6, 8, 10, 11, 32]))
   (.cond (.t 32)
    .skip
    (.exit 0)))
   (.seq
   (.block 1
    (.ops true [
      ⟨some 35, .mov (.t 10), none⟩,
      ⟨some 36, .load 4 true (.t 3) [], none⟩,
      ⟨some 37, .mov (.t 8), none⟩,
      ⟨some 38, .mov (.t 11), none⟩,
      ⟨some 39, .idx 1 (.t 37) (.t 38), none⟩,
      ⟨some 40, .load 1 false (.t 39) [], none⟩,
      ⟨some 41, .mov (.t 1), none⟩,
      ⟨some 42, .idx 1 (.t 40) (.t 41), none⟩,
      ⟨some 43, .load 1 false (.t 42) [], none⟩,
      ⟨some 44, .call 69 [.t 36, .t 43], none⟩,
      ⟨some 45, .mov (.t 2), none⟩,
      ⟨some 46, .idx 1 (.t 44) (.t 45), none⟩,
      ⟨some 47, .load 1 false (.t 46) [], none⟩,
      ⟨some 48, .bslice 1 [.t 47], none⟩,
      ⟨some 49, .app 49 1 8 (.t 35) (.t 48), none⟩,
      ⟨some 10, .mov (.t 49), none⟩] (some [1, 2, 3, 6, 8, 10, 11])))
   (.ops false [
     ⟨some 33, .mov (.t 11), none⟩,
     ⟨some 34, .bin .add (.t 33) (.k (.int 1)), none⟩,
     ⟨some 11, .mov (.t 34), none⟩] (some [1, 2, 3, 6, 8, 10, 11])))))))
 (.seq
 (.ops false [
   ⟨some 50, .mov (.t 10), none⟩,
   ⟨some 51, .call 97 [.t 50], none⟩,
   ⟨none, .store 2 (.t 6) (.t 51) (some 6), none⟩,
   ⟨some 7, .mov (.k (.int 0)), none⟩] (some [6, 7]))
 .ret))))))

theorem m57 : fmatch Try.prog Try.f57 3 [.cell 6 42, .tmp 7] v57 = true := by kernel_rfl

/-- steening/steeningref11.Carry -/
def v58 : VC :=
 (.seq
 (.ops false [
   ⟨some 2, .box 2 4 (.t 0), none⟩,
   ⟨some 4, .alloc 4 [.int 0, .int 0], none⟩,
   ⟨some 5, .mov (.k (.int 0)), none⟩] (some [1, 2, 4]))
 (.seq
 (.ops true [
   ⟨some 11, .load 4 true (.t 2) [], none⟩,
   ⟨some 12, .load 4 true (.t 2) [], none⟩,
   ⟨some 13, .mov (.t 1), none⟩,
   ⟨some 14, .call 30 [.t 12, .t 13], none⟩,
   ⟨some 15, .call 96 [.t 11, .t 14], none⟩,
   ⟨some 10, .mov (.t 15), none⟩,
   ⟨some 16, .ext (.t 10) 0, none⟩,
   ⟨some 17, .ext (.t 10) 1, none⟩,
   ⟨some 6, .mov (.t 16), none⟩,
   ⟨some 7, .mov (.t 17), none⟩] (some [1, 2, 4, 6, 7]))
 (.seq
 (.seq
 (.ops false [
   ⟨some 18, .mov (.t 7), none⟩,
   ⟨some 19, .bin .neq (.t 18) (.k (.int 0)), none⟩] (some [1, 2, 4, 6, 7, 19]))
 (.cond (.t 19)
  (.seq
  (.ops false [
    ⟨some 20, .build [.int 0, .int 0] [], none⟩,
    ⟨some 21, .mov (.t 7), none⟩,
    ⟨none, .store 2 (.t 4) (.t 20) (some 4), none⟩,
    ⟨some 5, .mov (.t 21), none⟩] (some [4, 5]))
  .ret)
  .skip))
 (.seq
 (.ops false [
   ⟨some 8, .nils 8 1, none⟩] (some [1, 2, 4, 6, 8]))
 (.seq
 (.seq
 (.ops false [
   ⟨some 9, .mov (.k (.int 0)), none⟩] (some [1, 2, 4, 6, 8, 9]))
 (.block 0
  (.loop
   (.seq
   (.seq
   (.ops false [
     ⟨some 22, .mov (.t 9), none⟩,
     ⟨some 23, .mov (.t 6), none⟩,
     ⟨some 24, .len (.t 23), none⟩,
     ⟨some 25, .bin .lss (.t 22) (.t 24), none⟩] (some [1, 2, 4, 6, 8, 9, 25]))
   (.cond (.t 25)
    .skip
    (.exit 0)))
   (.seq
   (.block 1
    (.ops true [
      ⟨some 28, .mov (.t 8), none⟩,
      ⟨some 29, .load 4 true (.t 2) [], none⟩,
      ⟨some 30, .mov (.t 6), none⟩,
      ⟨some 31, .mov (.t 9), none⟩,
      ⟨some 32, .idx 1 (.t 30) (.t 31), none⟩,
      ⟨some 33, .load 1 false (.t 32) [], none⟩,
      ⟨some 34, .mov (.t 1), none⟩,
      ⟨some 35, .call 62 [.t 29, .t 33, .t 34], none⟩,
      ⟨some 36, .bslice 1 [.t 35], none⟩,
      ⟨some 37, .app 37 1 8 (.t 28) (.t 36), none⟩,
      ⟨some 8, .mov (.t 37), none⟩] (some [1, 2, 4, 6, 8, 9])))
   (.ops false [
     ⟨some 26, .mov (.t 9), none⟩,
     ⟨some 27, .bin .add (.t 26) (.k (.int 1)), none⟩,
     ⟨some 9, .mov (.t 27), none⟩] (some [1, 2, 4, 6, 8, 9])))))))
 (.seq
 (.ops false [
   ⟨some 38, .mov (.t 8), none⟩,
   ⟨some 39, .call 97 [.t 38], none⟩,
   ⟨none, .store 2 (.t 4) (.t 39) (some 4), none⟩,
   ⟨some 5, .mov (.k (.int 0)), none⟩] (some [4, 5]))
 .ret))))))

theorem m58 : fmatch Try.prog Try.f58 2 [.cell 4 42, .tmp 5] v58 = true := by kernel_rfl

/-- steening/knots.Right -/
def v59 : VC :=
 (.seq
 (.ops false [
   ⟨some 2, .box 2 4 (.t 0), none⟩,
   ⟨some 4, .mov (.k (.bool false)), none⟩,
   ⟨some 5, .mov (.k (.int 0)), none⟩] (some [1, 2]))
 (.seq
 (.seq
 (.ops false [
   ⟨some 14, .load 4 true (.t 2) [], none⟩,
   ⟨some 15, .call 49 [.t 14], none⟩,
   ⟨some 6, .mov (.t 15), none⟩] (some [1, 2, 6]))
 (.seq
 (.ops false [
   ⟨some 16, .mov (.t 6), none⟩,
   ⟨some 17, .bin .neq (.t 16) (.k (.int 0)), none⟩] (some [1, 2, 6, 17]))
 (.cond (.t 17)
  (.seq
  (.ops false [
    ⟨some 18, .mov (.t 6), none⟩,
    ⟨some 4, .mov (.k (.bool false)), none⟩,
    ⟨some 5, .mov (.t 18), none⟩] (some [4, 5]))
  .ret)
  .skip)))
 (.seq
 (.ops false [
   ⟨some 19, .load 4 true (.t 2) [], none⟩,
   ⟨some 20, .call 66 [.t 19], none⟩,
   ⟨some 7, .mov (.t 20), none⟩] (some [1, 2, 7]))
 (.seq
 (.seq
 (.ops false [
   ⟨some 21, .mov (.t 1), none⟩,
   ⟨some 22, .len (.t 21), none⟩,
   ⟨some 23, .mov (.t 7), none⟩,
   ⟨some 24, .len (.t 23), none⟩,
   ⟨some 25, .bin .neq (.t 22) (.t 24), none⟩] (some [1, 2, 7, 25]))
 (.cond (.t 25)
  (.seq
  (.ops false [
    ⟨some 4, .mov (.k (.bool false)), none⟩,
    ⟨some 5, .mov (.k (.int 0)), none⟩] (some [4, 5]))
  .ret)
  .skip))
 (.seq
 (.ops false [
   ⟨some 8, .mov (.k (.int 0)), none⟩] (some [1, 2, 7, 8]))
 (.seq
 (.seq
 (.ops false [
   ⟨some 26, .mov (.t 1), none⟩,
   ⟨some 27, .len (.t 26), none⟩,
   ⟨some 28, .mov (.k (.int 0)), none⟩] (some [2, 7, 8, 26, 27, 28]))
 (.block 0
  (.loop
   (.seq
   (.ops false [
     ⟨some 29, .bin .lss (.t 28) (.t 27), none⟩] (some [2, 7, 8, 26, 27, 28, 29]))
   (.seq
   (.cond (.t 29)
    .skip
    (.exit 0))
   (.seq
   (.block 1
    (.seq
    (.ops false [
      ⟨some 30, .mov (.t 28), none⟩,
      ⟨some 31, .idx 1 (.t 26) (.t 28), none⟩,
      ⟨some 32, .load 1 false (.t 31) [], none⟩,
      ⟨some 9, .mov (.t 30), none⟩,
      ⟨some 10, .mov (.t 32), none⟩] (some [2, 7, 8, 9, 10, 26, 27, 28]))
    (.seq
    (.seq
    (.ops false [
      ⟨some 33, .mov (.t 10), none⟩,
      ⟨some 34, .len (.t 33), none⟩,
      ⟨some 35, .fld 1 (.t 2), none⟩,
      ⟨some 36, .load 1 false (.t 35) [], none⟩,
      ⟨some 37, .bin .neq (.t 34) (.t 36), none⟩] (some [2, 7, 8, 9, 10, 26, 27, 28, 37]))
    (.cond (.t 37)
     (.seq
     (.ops false [
       ⟨some 4, .mov (.k (.bool false)), none⟩,
       ⟨some 5, .mov (.k (.int 0)), none⟩] (some [4, 5]))
     .ret)
     .skip))
    (.seq
    (.seq
    (.ops false [
      ⟨some 38, .mov (.t 10), none⟩,
      ⟨some 39, .len (.t 38), none⟩,
      ⟨some 40, .mov (.k (.int 0)), none⟩] (some [2, 7, 8, 9, 10, 26, 27, 28, 38, 39, 40]))
    (.block 2
     (.loop
      (.seq
      (.ops false [
        ⟨some 41, .bin .lss (.t 40) (.t 39), none⟩] (some [2, 7, 8, 9, 10, 26, 27, 28, 38, 39, 40, 41]))
      (.seq
      (.cond (.t 41)
       .skip
       (.exit 2))
      (.seq
      (.block 3
       (.seq
       (.ops false [
         ⟨some 42, .mov (.t 40), none⟩,
         ⟨some 43, .idx 1 (.t 38) (.t 40), none⟩,
         ⟨some 44, .load 1 false (.t 43) [], none⟩,
         ⟨some 11, .mov (.t 42), none⟩,
         ⟨some 12, .mov (.t 44), none⟩] (some [2, 7, 8, 9, 10, 11, 12, 26, 27, 28, 38, 39, 40]))
       (.seq
       (.ops true [
         ⟨some 45, .mov (.t 12), none⟩,
         ⟨some 46, .mov (.t 7), none⟩,
         ⟨some 47, .mov (.t 9), none⟩,
         ⟨some 48, .idx 1 (.t 46) (.t 47), none⟩,
         ⟨some 49, .load 1 false (.t 48) [], none⟩,
         ⟨some 50, .mov (.t 11), none⟩,
         ⟨some 51, .idx 2 (.t 49) (.t 50), none⟩,
         ⟨some 52, .fld 0 (.t 51), none⟩,
         ⟨some 53, .load 1 false (.t 52) [], none⟩,
         ⟨some 54, .mov (.t 7), none⟩,
         ⟨some 55, .mov (.t 9), none⟩,
         ⟨some 56, .idx 1 (.t 54) (.t 55), none⟩,
         ⟨some 57, .load 1 false (.t 56) [], none⟩,
         ⟨some 58, .mov (.t 11), none⟩,
         ⟨some 59, .idx 2 (.t 57) (.t 58), none⟩,
         ⟨some 60, .fld 1 (.t 59), none⟩,
         ⟨some 61, .load 1 false (.t 60) [], none⟩,
         ⟨some 62, .call 86 [.t 45, .t 53, .t 61], none⟩,
         ⟨some 63, .not (.t 62), none⟩] (some [2, 7, 8, 9, 10, 26, 27, 28, 38, 39, 40, 63]))
       (.cond (.t 63)
        (.seq
        (.ops false [
          ⟨some 4, .mov (.k (.bool false)), none⟩,
          ⟨some 5, .mov (.k (.int 0)), none⟩] (some [4, 5]))
        .ret)
        .skip))))
      (.ops false [
        ⟨some 64, .bin .add (.t 40) (.k (.int 1)), none⟩,
        ⟨some 40, .mov (.t 64), none⟩] (some [2, 7, 8, 9, 10, 26, 27, 28, 38, 39, 40]))))))))
    (.seq
    (.ops false [
      ⟨some 65, .fld 0 (.t 2), none⟩,
      ⟨some 66, .load 1 false (.t 65) [], none⟩,
      ⟨some 67, .mov (.t 10), none⟩,
      ⟨some 68, .call 81 [.t 66, .t 67], none⟩,
      ⟨some 13, .mov (.t 68), none⟩] (some [2, 7, 8, 9, 13, 26, 27, 28]))
    (.seq
    (.ops false [
      ⟨some 69, .mov (.t 9), none⟩,
      ⟨some 70, .fld 2 (.t 2), none⟩,
      ⟨some 71, .load 1 false (.t 70) [], none⟩,
      ⟨some 72, .len (.t 71), none⟩,
      ⟨some 73, .bin .lss (.t 69) (.t 72), none⟩] (some [2, 7, 8, 13, 26, 27, 28, 73]))
    (.cond (.t 73)
     (.ops false [
       ⟨some 74, .mov (.t 8), none⟩,
       ⟨some 75, .mov (.t 13), none⟩,
       ⟨some 76, .bin .add (.t 74) (.t 75), none⟩,
       ⟨some 8, .mov (.t 76), none⟩] (some [2, 7, 8, 26, 27, 28]))
     (.ops false [
       ⟨some 77, .mov (.t 8), none⟩,
       ⟨some 78, .mov (.t 13), none⟩,
       ⟨some 79, .bin .sub (.t 77) (.t 78), none⟩,
       ⟨some 8, .mov (.t 79), none⟩] (some [2, 7, 8, 26, 27, 28])))))))))
   (.ops false [
     ⟨some 80, .bin .add (.t 28) (.k (.int 1)), none⟩,
     ⟨some 28, .mov (.t 80), none⟩] (some [2, 7, 8, 26, 27, 28]))))))))
 (.seq
 (.ops false [
   ⟨some 81, .mov (.t 8), none⟩,
   ⟨some 82, .bin .eql (.t 81) (.k (.int 0)), none⟩,
   ⟨some 4, .mov (.t 82), none⟩,
   ⟨some 5, .mov (.k (.int 0)), none⟩] (some [4, 5]))
 .ret)))))))

theorem m59 : fmatch Try.prog Try.f59 2 [.tmp 4, .tmp 5] v59 = true := by kernel_rfl

end Go.Proofs.Ytkkiipjfbebipaa
