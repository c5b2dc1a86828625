/- Merged by program: CodeA, CodeF, CodeH, CodeR, CodeS, Code, T1. -/
import Derived.Test.YtemnojaoickjfaaM3
import Derived.Test.YtemnojaoickjfaaProg
import Derived.ProofKit
/- The compact code of the functions, and that it is theirs. -/
namespace Go.Proofs.Ytemnojaoickjfaa
open Go Go.V
set_option maxRecDepth 100000

/-- steening/steeninglaw13.FinesDays -/
def v3 : VC :=
 (.seq
 (.ops false [
   ⟨some 1, .box 1 6 (.t 0), none⟩,
   ⟨some 2, .mov (.k (.bool false)), none⟩] (some [1]))
 (.seq
 (.seq
 (.ops false [
   ⟨some 12, .load 6 true (.t 1) [], none⟩,
   ⟨some 13, .call 14 [.t 12], none⟩] (some [1, 13]))
 (.cond (.t 13)
  (.seq
  (.ops false [
    ⟨some 14, .call 15 [], none⟩,
    ⟨some 2, .mov (.t 14), none⟩] (some [2]))
  .ret)
  .skip))
 (.seq
 (.ops false [
   ⟨some 15, .load 6 true (.t 1) [], none⟩,
   ⟨some 16, .call 16 [.t 15], none⟩,
   ⟨some 3, .alloc 3 [.int 0, .int 0, .int 0, .int 0, .sl 3 [] .full, .sl 3 [] .full], none⟩,
   ⟨none, .store 6 (.t 3) (.t 16) (some 3), none⟩] (some [1, 3]))
 (.seq
 (.ops false [
   ⟨some 18, .load 6 true (.t 3) [], none⟩,
   ⟨some 19, .call 17 [.t 18], none⟩,
   ⟨some 17, .mov (.t 19), none⟩,
   ⟨some 20, .ext (.t 17) 0, none⟩,
   ⟨some 21, .ext (.t 17) 1, none⟩,
   ⟨some 4, .mov (.t 20), none⟩,
   ⟨some 5, .mov (.t 21), none⟩] (some [1, 3, 4, 5]))
 (.seq
 (.ops false [
   ⟨some 23, .load 6 true (.t 1) [], none⟩,
   ⟨some 24, .call 18 [.t 23], none⟩,
   ⟨some 22, .mov (.t 24), none⟩,
   ⟨some 25, .ext (.t 22) 0, none⟩,
   ⟨some 26, .ext (.t 22) 1, none⟩,
   ⟨some 6, .mov (.t 25), none⟩,
   ⟨some 7, .mov (.t 26), none⟩] (some [1, 3, 4, 5, 6, 7]))
 (.seq
 (.ops false [
   ⟨some 28, .load 6 true (.t 3) [], none⟩,
   ⟨some 29, .call 19 [.t 28], none⟩,
   ⟨some 27, .mov (.t 29), none⟩,
   ⟨some 30, .ext (.t 27) 0, none⟩,
   ⟨some 31, .ext (.t 27) 1, none⟩,
   ⟨some 8, .mov (.t 30), none⟩,
   ⟨some 9, .mov (.t 31), none⟩] (some [1, 3, 4, 5, 6, 7, 8, 9]))
 (.seq
 (.ops false [
   ⟨some 33, .load 6 true (.t 1) [], none⟩,
   ⟨some 34, .call 20 [.t 33], none⟩,
   ⟨some 32, .mov (.t 34), none⟩,
   ⟨some 35, .ext (.t 32) 0, none⟩,
   ⟨some 36, .ext (.t 32) 1, none⟩,
   ⟨some 10, .mov (.t 35), none⟩,
   ⟨some 11, .mov (.t 36), none⟩] (some [1, 3, 4, 5, 6, 7, 8, 9, 10, 11]))
 (.seq
 (.ops false [
   ⟨some 37, .mov (.t 4), none⟩,
   ⟨some 38, .mov (.t 6), none⟩,
   ⟨some 39, .bin .eql (.t 37) (.t 38), none⟩,
   ⟨some 40, .mov (.t 39), none⟩,
   ⟨some 41, .mov (.t 5), some (40, true)⟩,
   ⟨some 42, .mov (.t 7), some (40, true)⟩,
   ⟨some 43, .bin .eql (.t 41) (.t 42), some (40, true)⟩,
   ⟨some 44, .pick (.t 40) (.t 43) (.k (.bool false)), none⟩,
   ⟨some 45, .mov (.t 44), none⟩,
   ⟨some 46, .mov (.t 8), some (45, true)⟩,
   ⟨some 47, .mov (.t 10), some (45, true)⟩,
   ⟨some 48, .bin .eql (.t 46) (.t 47), some (45, true)⟩,
   ⟨some 49, .pick (.t 45) (.t 48) (.k (.bool false)), none⟩,
   ⟨some 50, .mov (.t 49), none⟩,
   ⟨some 51, .mov (.t 9), some (50, true)⟩,
   ⟨some 52, .mov (.t 11), some (50, true)⟩,
   ⟨some 53, .bin .eql (.t 51) (.t 52), some (50, true)⟩,
   ⟨some 54, .pick (.t 50) (.t 53) (.k (.bool false)), none⟩,
   ⟨some 55, .mov (.t 54), none⟩,
   ⟨some 56, .load 6 true (.t 3) [], some (55, true)⟩,
   ⟨some 57, .load 6 true (.t 1) [], some (55, true)⟩,
   ⟨some 58, .call 21 [.t 56, .t 57], some (55, true)⟩,
   ⟨some 59, .pick (.t 55) (.t 58) (.k (.bool false)), none⟩,
   ⟨some 60, .mov (.t 59), none⟩,
   ⟨some 61, .call 15 [], some (60, true)⟩,
   ⟨some 62, .pick (.t 60) (.t 61) (.k (.bool false)), none⟩,
   ⟨some 2, .mov (.t 62), none⟩] (some [2]))
 .ret))))))))

theorem m3 : fmatch Try.prog Try.f3 1 [.tmp 2] v3 = true := by kernel_rfl

/-- steening/steeninglaw13.FinesPersons -/
def v4 : VC :=
 (.seq
 (.ops false [
   ⟨some 1, .box 1 6 (.t 0), none⟩,
   ⟨some 2, .mov (.k (.bool false)), none⟩] (some [1]))
 (.seq
 (.seq
 (.ops false [
   ⟨some 13, .load 6 true (.t 1) [], none⟩,
   ⟨some 14, .call 22 [.t 13], none⟩,
   ⟨some 15, .not (.t 14), none⟩] (some [1, 15]))
 (.cond (.t 15)
  (.seq
  (.ops false [
    ⟨some 16, .call 15 [], none⟩,
    ⟨some 2, .mov (.t 16), none⟩] (some [2]))
  .ret)
  .skip))
 (.seq
 (.ops false [
   ⟨some 18, .load 6 true (.t 1) [], none⟩,
   ⟨some 19, .call 23 [.t 18], none⟩,
   ⟨some 17, .mov (.t 19), none⟩,
   ⟨some 20, .ext (.t 17) 0, none⟩,
   ⟨some 21, .ext (.t 17) 1, none⟩,
   ⟨some 3, .mov (.t 20), none⟩,
   ⟨some 4, .mov (.t 21), none⟩] (some [1, 3, 4]))
 (.seq
 (.seq
 (.ops false [
   ⟨some 22, .mov (.t 4), none⟩,
   ⟨some 23, .not (.t 22), none⟩] (some [1, 3, 23]))
 (.cond (.t 23)
  (.seq
  (.ops false [
    ⟨some 2, .mov (.k (.bool false)), none⟩] (some [2]))
  .ret)
  .skip))
 (.seq
 (.seq
 (.ops false [
   ⟨some 5, .mov (.k (.int 0)), none⟩] (some [1, 3, 5]))
 (.block 0
  (.loop
   (.seq
   (.seq
   (.ops false [
     ⟨some 24, .mov (.t 5), none⟩,
     ⟨some 25, .fld 2 (.t 1), none⟩,
     ⟨some 26, .load 1 false (.t 25) [], none⟩,
     ⟨some 27, .bin .lss (.t 24) (.t 26), none⟩] (some [1, 3, 5, 27]))
   (.cond (.t 27)
    .skip
    (.exit 0)))
   (.seq
   (.block 1
    (.seq
    (.ops false [
      ⟨some 30, .load 6 true (.t 1) [], none⟩,
      ⟨some 31, .mov (.t 5), none⟩,
      ⟨some 32, .call 24 [.t 30, .t 31], none⟩,
      ⟨some 6, .alloc 6 [.int 0, .int 0, .int 0, .int 0, .sl 3 [] .full, .sl 3 [] .full], none⟩,
      ⟨none, .store 6 (.t 6) (.t 32) (some 6), none⟩] (some [1, 3, 5, 6]))
    (.seq
    (.ops false [
      ⟨some 34, .load 6 true (.t 6) [], none⟩,
      ⟨some 35, .call 23 [.t 34], none⟩,
      ⟨some 33, .mov (.t 35), none⟩,
      ⟨some 36, .ext (.t 33) 0, none⟩,
      ⟨some 37, .ext (.t 33) 1, none⟩,
      ⟨some 7, .mov (.t 36), none⟩,
      ⟨some 8, .mov (.t 37), none⟩] (some [1, 3, 5, 6, 7, 8]))
    (.seq
    (.ops false [
      ⟨some 39, .load 6 true (.t 1) [], none⟩,
      ⟨some 40, .mov (.t 5), none⟩,
      ⟨some 41, .call 25 [.t 39, .t 40], none⟩,
      ⟨some 38, .mov (.t 41), none⟩,
      ⟨some 42, .ext (.t 38) 0, none⟩,
      ⟨some 43, .ext (.t 38) 1, none⟩,
      ⟨some 9, .alloc 9 [.int 0, .int 0], none⟩,
      ⟨none, .store 2 (.t 9) (.t 42) (some 9), none⟩,
      ⟨some 10, .mov (.t 43), none⟩] (some [1, 3, 5, 6, 7, 8, 9, 10]))
    (.seq
    (.ops false [
      ⟨some 45, .load 6 true (.t 6) [], none⟩,
      ⟨some 46, .mov (.t 5), none⟩,
      ⟨some 47, .call 25 [.t 45, .t 46], none⟩,
      ⟨some 44, .mov (.t 47), none⟩,
      ⟨some 48, .ext (.t 44) 0, none⟩,
      ⟨some 49, .ext (.t 44) 1, none⟩,
      ⟨some 11, .alloc 11 [.int 0, .int 0], none⟩,
      ⟨none, .store 2 (.t 11) (.t 48) (some 11), none⟩,
      ⟨some 12, .mov (.t 49), none⟩] (some [1, 3, 5, 7, 8, 9, 10, 11, 12]))
    (.seq
    (.seq
    (.ops false [
      ⟨some 50, .mov (.t 8), none⟩,
      ⟨some 51, .not (.t 50), none⟩,
      ⟨some 52, .mov (.t 51), none⟩,
      ⟨some 53, .mov (.t 10), some (52, false)⟩,
      ⟨some 54, .bin .neq (.t 53) (.k (.int 0)), some (52, false)⟩,
      ⟨some 55, .pick (.t 52) (.k (.bool true)) (.t 54), none⟩,
      ⟨some 56, .mov (.t 55), none⟩,
      ⟨some 57, .mov (.t 12), some (56, false)⟩,
      ⟨some 58, .bin .neq (.t 57) (.k (.int 0)), some (56, false)⟩,
      ⟨some 59, .pick (.t 56) (.k (.bool true)) (.t 58), none⟩,
      ⟨some 60, .mov (.t 59), none⟩,
      ⟨some 61, .load 2 true (.t 9) [], some (60, false)⟩,
      ⟨some 62, .load 2 true (.t 11) [], some (60, false)⟩,
      ⟨some 63, .bin (.sne 2) (.t 61) (.t 62), some (60, false)⟩,
      ⟨some 64, .pick (.t 60) (.k (.bool true)) (.t 63), none⟩] (some [1, 3, 5, 7, 64]))
    (.cond (.t 64)
     (.seq
     (.ops false [
       ⟨some 2, .mov (.k (.bool false)), none⟩] (some [2]))
     .ret)
     .skip))
    (.ops false [
      ⟨some 65, .mov (.t 3), none⟩,
      ⟨some 66, .mov (.t 7), none⟩,
      ⟨some 67, .bin .sub (.t 65) (.t 66), none⟩,
      ⟨some 3, .mov (.t 67), none⟩] (some [1, 3, 5]))))))))
   (.ops false [
     ⟨some 28, .mov (.t 5), none⟩,
     ⟨some 29, .bin .add (.t 28) (.k (.int 1)), none⟩,
     ⟨some 5, .mov (.t 29), none⟩] (some [1, 3, 5])))))))
 (.seq
 (.ops false [
   ⟨some 68, .mov (.t 3), none⟩,
   ⟨some 69, .bin .eql (.t 68) (.k (.int 0)), none⟩,
   ⟨some 70, .mov (.t 69), none⟩,
   ⟨some 71, .call 15 [], some (70, true)⟩,
   ⟨some 72, .pick (.t 70) (.t 71) (.k (.bool false)), none⟩,
   ⟨some 2, .mov (.t 72), none⟩] (some [2]))
 .ret))))))

theorem m4 : fmatch Try.prog Try.f4 1 [.tmp 2] v4 = true := by kernel_rfl

/-- steening/steeninglaw13.FinesAlike -/
def v5 : VC :=
 (.seq
 (.ops false [
   ⟨some 1, .box 1 6 (.t 0), none⟩,
   ⟨some 2, .mov (.k (.bool false)), none⟩] (some [1]))
 (.seq
 (.ops false [
   ⟨some 12, .load 6 true (.t 1) [], none⟩,
   ⟨some 13, .call 16 [.t 12], none⟩,
   ⟨some 3, .alloc 3 [.int 0, .int 0, .int 0, .int 0, .sl 3 [] .full, .sl 3 [] .full], none⟩,
   ⟨none, .store 6 (.t 3) (.t 13) (some 3), none⟩] (some [1, 3]))
 (.seq
 (.ops false [
   ⟨some 14, .fld 4 (.t 1), none⟩,
   ⟨some 15, .load 1 false (.t 14) [], none⟩,
   ⟨some 16, .call 26 [.t 15], none⟩,
   ⟨some 17, .fld 5 (.t 3), none⟩,
   ⟨none, .store 1 (.t 17) (.t 16) (some 3), none⟩] (some [3]))
 (.seq
 (.seq
 (.ops false [
   ⟨some 18, .load 6 true (.t 3) [], none⟩,
   ⟨some 19, .call 22 [.t 18], none⟩,
   ⟨some 20, .not (.t 19), none⟩] (some [3, 20]))
 (.cond (.t 20)
  (.seq
  (.ops false [
    ⟨some 21, .call 15 [], none⟩,
    ⟨some 2, .mov (.t 21), none⟩] (some [2]))
  .ret)
  .skip))
 (.seq
 (.ops false [
   ⟨some 23, .load 6 true (.t 3) [], none⟩,
   ⟨some 24, .call 23 [.t 23], none⟩,
   ⟨some 22, .mov (.t 24), none⟩,
   ⟨some 25, .ext (.t 22) 0, none⟩,
   ⟨some 26, .ext (.t 22) 1, none⟩,
   ⟨some 4, .mov (.t 25), none⟩,
   ⟨some 5, .mov (.t 26), none⟩] (some [3, 4, 5]))
 (.seq
 (.ops false [
   ⟨some 28, .load 6 true (.t 3) [], none⟩,
   ⟨some 29, .call 17 [.t 28], none⟩,
   ⟨some 27, .mov (.t 29), none⟩,
   ⟨some 30, .ext (.t 27) 0, none⟩,
   ⟨some 31, .ext (.t 27) 1, none⟩,
   ⟨some 6, .mov (.t 30), none⟩,
   ⟨some 7, .mov (.t 31), none⟩] (some [3, 4, 5, 6, 7]))
 (.seq
 (.ops false [
   ⟨some 33, .load 6 true (.t 3) [], none⟩,
   ⟨some 34, .call 27 [.t 33, .k (.int 0)], none⟩,
   ⟨some 32, .mov (.t 34), none⟩,
   ⟨some 35, .ext (.t 32) 0, none⟩,
   ⟨some 36, .ext (.t 32) 1, none⟩,
   ⟨some 8, .mov (.t 35), none⟩,
   ⟨some 9, .mov (.t 36), none⟩] (some [3, 4, 5, 6, 7, 8, 9]))
 (.seq
 (.ops false [
   ⟨some 38, .load 6 true (.t 3) [], none⟩,
   ⟨some 39, .call 27 [.t 38, .k (.int 1)], none⟩,
   ⟨some 37, .mov (.t 39), none⟩,
   ⟨some 40, .ext (.t 37) 0, none⟩,
   ⟨some 41, .ext (.t 37) 1, none⟩,
   ⟨some 10, .mov (.t 40), none⟩,
   ⟨some 11, .mov (.t 41), none⟩] (some [3, 4, 5, 6, 7, 8, 9, 10, 11]))
 (.seq
 (.ops false [
   ⟨some 42, .mov (.t 5), none⟩,
   ⟨some 43, .mov (.t 42), none⟩,
   ⟨some 44, .mov (.t 4), some (43, true)⟩,
   ⟨some 45, .fld 4 (.t 3), some (43, true)⟩,
   ⟨some 46, .load 1 false (.t 45) [], some (43, true)⟩,
   ⟨some 47, .len (.t 46), some (43, true)⟩,
   ⟨some 48, .bin .eql (.t 44) (.t 47), some (43, true)⟩,
   ⟨some 49, .pick (.t 43) (.t 48) (.k (.bool false)), none⟩,
   ⟨some 50, .mov (.t 49), none⟩,
   ⟨some 51, .mov (.t 7), some (50, true)⟩,
   ⟨some 52, .bin .eql (.t 51) (.k (.int 0)), some (50, true)⟩,
   ⟨some 53, .pick (.t 50) (.t 52) (.k (.bool false)), none⟩,
   ⟨some 54, .mov (.t 53), none⟩,
   ⟨some 55, .mov (.t 6), some (54, true)⟩,
   ⟨some 56, .bin .eql (.t 55) (.k (.int 0)), some (54, true)⟩,
   ⟨some 57, .pick (.t 54) (.t 56) (.k (.bool false)), none⟩,
   ⟨some 58, .mov (.t 57), none⟩,
   ⟨some 59, .mov (.t 9), some (58, true)⟩,
   ⟨some 60, .bin .eql (.t 59) (.k (.int 0)), some (58, true)⟩,
   ⟨some 61, .pick (.t 58) (.t 60) (.k (.bool false)), none⟩,
   ⟨some 62, .mov (.t 61), none⟩,
   ⟨some 63, .mov (.t 11), some (62, true)⟩,
   ⟨some 64, .bin .eql (.t 63) (.k (.int 0)), some (62, true)⟩,
   ⟨some 65, .pick (.t 62) (.t 64) (.k (.bool false)), none⟩,
   ⟨some 66, .mov (.t 65), none⟩,
   ⟨some 67, .mov (.t 8), some (66, true)⟩,
   ⟨some 68, .len (.t 67), some (66, true)⟩,
   ⟨some 69, .mov (.t 10), some (66, true)⟩,
   ⟨some 70, .len (.t 69), some (66, true)⟩,
   ⟨some 71, .bin .add (.t 68) (.t 70), some (66, true)⟩,
   ⟨some 72, .bin .eql (.t 71) (.k (.int 0)), some (66, true)⟩,
   ⟨some 73, .pick (.t 66) (.t 72) (.k (.bool false)), none⟩,
   ⟨some 74, .mov (.t 73), none⟩,
   ⟨some 75, .call 15 [], some (74, true)⟩,
   ⟨some 76, .pick (.t 74) (.t 75) (.k (.bool false)), none⟩,
   ⟨some 2, .mov (.t 76), none⟩] (some [2]))
 .ret)))))))))

theorem m5 : fmatch Try.prog Try.f5 1 [.tmp 2] v5 = true := by kernel_rfl

/-- steening/steeninglaw13.FinesOwed -/
def v6 : VC :=
 (.seq
 (.ops false [
   ⟨some 2, .box 2 6 (.t 0), none⟩,
   ⟨some 4, .mov (.k (.bool false)), none⟩] (some [1, 2]))
 (.seq
 (.seq
 (.ops false [
   ⟨some 16, .load 6 true (.t 2) [], none⟩,
   ⟨some 17, .call 14 [.t 16], none⟩] (some [1, 2, 17]))
 (.cond (.t 17)
  (.seq
  (.ops false [
    ⟨some 18, .call 15 [], none⟩,
    ⟨some 4, .mov (.t 18), none⟩] (some [4]))
  .ret)
  .skip))
 (.seq
 (.ops false [
   ⟨some 19, .load 6 true (.t 2) [], none⟩,
   ⟨some 20, .call 16 [.t 19], none⟩,
   ⟨some 5, .alloc 5 [.int 0, .int 0, .int 0, .int 0, .sl 3 [] .full, .sl 3 [] .full], none⟩,
   ⟨none, .store 6 (.t 5) (.t 20) (some 5), none⟩] (some [1, 2, 5]))
 (.seq
 (.ops false [
   ⟨some 22, .load 6 true (.t 5) [], none⟩,
   ⟨some 23, .call 28 [.t 22], none⟩,
   ⟨some 21, .mov (.t 23), none⟩,
   ⟨some 24, .ext (.t 21) 0, none⟩,
   ⟨some 25, .ext (.t 21) 1, none⟩,
   ⟨some 6, .mov (.t 24), none⟩,
   ⟨some 7, .mov (.t 25), none⟩] (some [1, 2, 5, 6, 7]))
 (.seq
 (.ops false [
   ⟨some 27, .load 6 true (.t 2) [], none⟩,
   ⟨some 28, .call 29 [.t 27], none⟩,
   ⟨some 26, .mov (.t 28), none⟩,
   ⟨some 29, .ext (.t 26) 0, none⟩,
   ⟨some 30, .ext (.t 26) 1, none⟩,
   ⟨some 8, .mov (.t 29), none⟩,
   ⟨some 9, .mov (.t 30), none⟩] (some [1, 2, 5, 6, 7, 8, 9]))
 (.seq
 (.ops false [
   ⟨some 32, .load 6 true (.t 5) [], none⟩,
   ⟨some 33, .mov (.t 1), none⟩,
   ⟨some 34, .call 25 [.t 32, .t 33], none⟩,
   ⟨some 31, .mov (.t 34), none⟩,
   ⟨some 35, .ext (.t 31) 0, none⟩,
   ⟨some 36, .ext (.t 31) 1, none⟩,
   ⟨some 10, .alloc 10 [.int 0, .int 0], none⟩,
   ⟨none, .store 2 (.t 10) (.t 35) (some 10), none⟩,
   ⟨some 11, .mov (.t 36), none⟩] (some [1, 2, 5, 6, 7, 8, 9, 10, 11]))
 (.seq
 (.ops false [
   ⟨some 38, .load 6 true (.t 2) [], none⟩,
   ⟨some 39, .mov (.t 1), none⟩,
   ⟨some 40, .call 30 [.t 38, .t 39], none⟩,
   ⟨some 37, .mov (.t 40), none⟩,
   ⟨some 41, .ext (.t 37) 0, none⟩,
   ⟨some 42, .ext (.t 37) 1, none⟩,
   ⟨some 12, .alloc 12 [.int 0, .int 0], none⟩,
   ⟨none, .store 2 (.t 12) (.t 41) (some 12), none⟩,
   ⟨some 13, .mov (.t 42), none⟩] (some [2, 5, 6, 7, 8, 9, 10, 11, 12, 13]))
 (.seq
 (.ops false [
   ⟨some 44, .load 6 true (.t 5) [], none⟩,
   ⟨some 45, .call 31 [.t 44], none⟩,
   ⟨some 43, .mov (.t 45), none⟩,
   ⟨some 46, .ext (.t 43) 0, none⟩,
   ⟨some 47, .ext (.t 43) 1, none⟩,
   ⟨some 14, .mov (.t 46), none⟩,
   ⟨some 15, .mov (.t 47), none⟩] (some [2, 5, 6, 7, 8, 9, 10, 11, 12, 13, 14, 15]))
 (.seq
 (.seq
 (.ops false [
   ⟨some 48, .mov (.t 6), none⟩,
   ⟨some 49, .mov (.t 8), none⟩,
   ⟨some 50, .bin .neq (.t 48) (.t 49), none⟩,
   ⟨some 51, .mov (.t 50), none⟩,
   ⟨some 52, .mov (.t 7), some (51, false)⟩,
   ⟨some 53, .mov (.t 9), some (51, false)⟩,
   ⟨some 54, .bin .neq (.t 52) (.t 53), some (51, false)⟩,
   ⟨some 55, .pick (.t 51) (.k (.bool true)) (.t 54), none⟩,
   ⟨some 56, .mov (.t 55), none⟩,
   ⟨some 57, .load 2 true (.t 10) [], some (56, false)⟩,
   ⟨some 58, .load 2 true (.t 12) [], some (56, false)⟩,
   ⟨some 59, .bin (.sne 2) (.t 57) (.t 58), some (56, false)⟩,
   ⟨some 60, .pick (.t 56) (.k (.bool true)) (.t 59), none⟩,
   ⟨some 61, .mov (.t 60), none⟩,
   ⟨some 62, .mov (.t 11), some (61, false)⟩,
   ⟨some 63, .mov (.t 13), some (61, false)⟩,
   ⟨some 64, .bin .neq (.t 62) (.t 63), some (61, false)⟩,
   ⟨some 65, .pick (.t 61) (.k (.bool true)) (.t 64), none⟩,
   ⟨some 66, .mov (.t 65), none⟩,
   ⟨some 67, .mov (.t 15), some (66, false)⟩,
   ⟨some 68, .mov (.t 9), some (66, false)⟩,
   ⟨some 69, .bin .neq (.t 67) (.t 68), some (66, false)⟩,
   ⟨some 70, .pick (.t 66) (.k (.bool true)) (.t 69), none⟩,
   ⟨some 71, .mov (.t 70), none⟩,
   ⟨some 72, .load 6 true (.t 5) [], some (71, false)⟩,
   ⟨some 73, .load 6 true (.t 2) [], some (71, false)⟩,
   ⟨some 74, .call 21 [.t 72, .t 73], some (71, false)⟩,
   ⟨some 75, .not (.t 74), some (71, false)⟩,
   ⟨some 76, .pick (.t 71) (.k (.bool true)) (.t 75), none⟩] (some [2, 8, 9, 14, 76]))
 (.cond (.t 76)
  (.seq
  (.ops false [
    ⟨some 4, .mov (.k (.bool false)), none⟩] (some [4]))
  .ret)
  .skip))
 (.seq
 (.seq
 (.ops false [
   ⟨some 77, .mov (.t 9), none⟩,
   ⟨some 78, .bin .neq (.t 77) (.k (.int 0)), none⟩] (some [2, 8, 14, 78]))
 (.cond (.t 78)
  (.seq
  (.ops false [
    ⟨some 79, .mov (.t 14), none⟩,
    ⟨some 80, .len (.t 79), none⟩,
    ⟨some 81, .bin .eql (.t 80) (.k (.int 0)), none⟩,
    ⟨some 82, .mov (.t 81), none⟩,
    ⟨some 83, .call 15 [], some (82, true)⟩,
    ⟨some 84, .pick (.t 82) (.t 83) (.k (.bool false)), none⟩,
    ⟨some 4, .mov (.t 84), none⟩] (some [4]))
  .ret)
  .skip))
 (.seq
 (.ops false [
   ⟨some 85, .load 6 true (.t 2) [], none⟩,
   ⟨some 86, .mov (.t 14), none⟩,
   ⟨some 87, .call 32 [.t 85, .t 86], none⟩,
   ⟨some 88, .mov (.t 87), none⟩,
   ⟨some 89, .mov (.t 14), some (88, true)⟩,
   ⟨some 90, .len (.t 89), some (88, true)⟩,
   ⟨some 91, .fld 4 (.t 2), some (88, true)⟩,
   ⟨some 92, .load 1 false (.t 91) [], some (88, true)⟩,
   ⟨some 93, .len (.t 92), some (88, true)⟩,
   ⟨some 94, .fld 5 (.t 2), some (88, true)⟩,
   ⟨some 95, .load 1 false (.t 94) [], some (88, true)⟩,
   ⟨some 96, .len (.t 95), some (88, true)⟩,
   ⟨some 97, .bin .add (.t 93) (.t 96), some (88, true)⟩,
   ⟨some 98, .mov (.t 8), some (88, true)⟩,
   ⟨some 99, .bin .sub (.t 97) (.t 98), some (88, true)⟩,
   ⟨some 100, .bin .eql (.t 90) (.t 99), some (88, true)⟩,
   ⟨some 101, .pick (.t 88) (.t 100) (.k (.bool false)), none⟩,
   ⟨some 102, .mov (.t 101), none⟩,
   ⟨some 103, .call 15 [], some (102, true)⟩,
   ⟨some 104, .pick (.t 102) (.t 103) (.k (.bool false)), none⟩,
   ⟨some 4, .mov (.t 104), none⟩] (some [4]))
 .ret)))))))))))

theorem m6 : fmatch Try.prog Try.f6 2 [.tmp 4] v6 = true := by kernel_rfl

/-- steening/steeninglaw13.FinesLater -/
def v7 : VC :=
 (.seq
 (.ops false [
   ⟨some 3, .box 3 6 (.t 0), none⟩,
   ⟨some 5, .box 5 2 (.t 2), none⟩,
   ⟨some 6, .mov (.k (.bool false)), none⟩] (some [1, 3, 5]))
 (.seq
 (.seq
 (.ops false [
   ⟨some 24, .load 6 true (.t 3) [], none⟩,
   ⟨some 25, .call 22 [.t 24], none⟩,
   ⟨some 26, .not (.t 25), none⟩,
   ⟨some 27, .mov (.t 26), none⟩,
   ⟨some 28, .mov (.t 1), some (27, false)⟩,
   ⟨some 29, .fld 3 (.t 3), some (27, false)⟩,
   ⟨some 30, .load 1 false (.t 29) [], some (27, false)⟩,
   ⟨some 31, .call 33 [.t 28, .t 30, .k (.int 30)], some (27, false)⟩,
   ⟨some 32, .not (.t 31), some (27, false)⟩,
   ⟨some 33, .pick (.t 27) (.k (.bool true)) (.t 32), none⟩] (some [1, 3, 5, 33]))
 (.cond (.t 33)
  (.seq
  (.ops false [
    ⟨some 34, .call 15 [], none⟩,
    ⟨some 6, .mov (.t 34), none⟩] (some [6]))
  .ret)
  .skip))
 (.seq
 (.ops false [
   ⟨some 35, .load 6 true (.t 3) [], none⟩,
   ⟨some 36, .mov (.t 1), none⟩,
   ⟨some 37, .call 34 [.t 35, .t 36], none⟩,
   ⟨some 7, .alloc 7 [.int 0, .int 0, .int 0, .int 0, .sl 3 [] .full, .sl 3 [] .full], none⟩,
   ⟨none, .store 6 (.t 7) (.t 37) (some 7), none⟩] (some [3, 5, 7]))
 (.seq
 (.ops false [
   ⟨some 39, .load 6 true (.t 3) [], none⟩,
   ⟨some 40, .call 23 [.t 39], none⟩,
   ⟨some 38, .mov (.t 40), none⟩,
   ⟨some 41, .ext (.t 38) 0, none⟩,
   ⟨some 42, .ext (.t 38) 1, none⟩,
   ⟨some 8, .mov (.t 41), none⟩,
   ⟨some 9, .mov (.t 42), none⟩] (some [3, 5, 7, 8, 9]))
 (.seq
 (.ops false [
   ⟨some 44, .load 6 true (.t 7) [], none⟩,
   ⟨some 45, .call 23 [.t 44], none⟩,
   ⟨some 43, .mov (.t 45), none⟩,
   ⟨some 46, .ext (.t 43) 0, none⟩,
   ⟨some 47, .ext (.t 43) 1, none⟩,
   ⟨some 10, .mov (.t 46), none⟩,
   ⟨some 11, .mov (.t 47), none⟩] (some [3, 5, 7, 8, 9, 10, 11]))
 (.seq
 (.ops false [
   ⟨some 49, .load 6 true (.t 3) [], none⟩,
   ⟨some 50, .call 19 [.t 49], none⟩,
   ⟨some 48, .mov (.t 50), none⟩,
   ⟨some 51, .ext (.t 48) 0, none⟩,
   ⟨some 52, .ext (.t 48) 1, none⟩,
   ⟨some 12, .mov (.t 51), none⟩,
   ⟨some 13, .mov (.t 52), none⟩] (some [3, 5, 7, 8, 9, 10, 11, 12, 13]))
 (.seq
 (.seq
 (.ops false [
   ⟨some 53, .mov (.t 9), none⟩,
   ⟨some 54, .not (.t 53), none⟩,
   ⟨some 55, .mov (.t 54), none⟩,
   ⟨some 56, .mov (.t 11), some (55, false)⟩,
   ⟨some 57, .not (.t 56), some (55, false)⟩,
   ⟨some 58, .pick (.t 55) (.k (.bool true)) (.t 57), none⟩,
   ⟨some 59, .mov (.t 58), none⟩,
   ⟨some 60, .mov (.t 10), some (59, false)⟩,
   ⟨some 61, .mov (.t 8), some (59, false)⟩,
   ⟨some 62, .bin .gtr (.t 60) (.t 61), some (59, false)⟩,
   ⟨some 63, .pick (.t 59) (.k (.bool true)) (.t 62), none⟩,
   ⟨some 64, .mov (.t 63), none⟩,
   ⟨some 65, .mov (.t 13), some (64, false)⟩,
   ⟨some 66, .bin .neq (.t 65) (.k (.int 0)), some (64, false)⟩,
   ⟨some 67, .pick (.t 64) (.k (.bool true)) (.t 66), none⟩,
   ⟨some 68, .mov (.t 67), none⟩,
   ⟨some 69, .mov (.t 12), some (68, false)⟩,
   ⟨some 70, .call 33 [.t 69, .k (.int 0), .k (.int 30)], some (68, false)⟩,
   ⟨some 71, .not (.t 70), some (68, false)⟩,
   ⟨some 72, .pick (.t 68) (.k (.bool true)) (.t 71), none⟩] (some [3, 5, 7, 12, 72]))
 (.cond (.t 72)
  (.seq
  (.ops false [
    ⟨some 6, .mov (.k (.bool false)), none⟩] (some [6]))
  .ret)
  .skip))
 (.seq
 (.ops false [
   ⟨some 74, .load 6 true (.t 3) [], none⟩,
   ⟨some 75, .call 34 [.t 74, .k (.int 30)], none⟩,
   ⟨some 76, .call 23 [.t 75], none⟩,
   ⟨some 73, .mov (.t 76), none⟩,
   ⟨some 77, .ext (.t 73) 0, none⟩,
   ⟨some 78, .ext (.t 73) 1, none⟩,
   ⟨some 14, .mov (.t 77), none⟩,
   ⟨some 15, .mov (.t 78), none⟩] (some [3, 5, 7, 12, 14, 15]))
 (.seq
 (.ops false [
   ⟨some 80, .load 6 true (.t 3) [], none⟩,
   ⟨some 81, .mov (.t 12), none⟩,
   ⟨some 82, .call 34 [.t 80, .t 81], none⟩,
   ⟨some 83, .call 23 [.t 82], none⟩,
   ⟨some 79, .mov (.t 83), none⟩,
   ⟨some 84, .ext (.t 79) 0, none⟩,
   ⟨some 85, .ext (.t 79) 1, none⟩,
   ⟨some 16, .mov (.t 84), none⟩,
   ⟨some 17, .mov (.t 85), none⟩] (some [3, 5, 7, 12, 14, 15, 16, 17]))
 (.seq
 (.seq
 (.ops false [
   ⟨some 86, .mov (.t 15), none⟩,
   ⟨some 87, .not (.t 86), none⟩,
   ⟨some 88, .mov (.t 87), none⟩,
   ⟨some 89, .mov (.t 17), some (88, false)⟩,
   ⟨some 90, .not (.t 89), some (88, false)⟩,
   ⟨some 91, .pick (.t 88) (.k (.bool true)) (.t 90), none⟩,
   ⟨some 92, .mov (.t 91), none⟩,
   ⟨some 93, .mov (.t 16), some (92, false)⟩,
   ⟨some 94, .mov (.t 14), some (92, false)⟩,
   ⟨some 95, .bin .neq (.t 93) (.t 94), some (92, false)⟩,
   ⟨some 96, .pick (.t 92) (.k (.bool true)) (.t 95), none⟩] (some [3, 5, 7, 12, 14, 96]))
 (.cond (.t 96)
  (.seq
  (.ops false [
    ⟨some 6, .mov (.k (.bool false)), none⟩] (some [6]))
  .ret)
  .skip))
 (.seq
 (.seq
 (.ops false [
   ⟨some 97, .mov (.t 12), none⟩,
   ⟨some 98, .bin .gtr (.t 97) (.k (.int 0)), none⟩] (some [3, 5, 7, 12, 14, 98]))
 (.cond (.t 98)
  (.seq
  (.ops false [
    ⟨some 100, .load 6 true (.t 3) [], none⟩,
    ⟨some 101, .mov (.t 12), none⟩,
    ⟨some 102, .bin .sub (.t 101) (.k (.int 1)), none⟩,
    ⟨some 103, .call 34 [.t 100, .t 102], none⟩,
    ⟨some 104, .call 23 [.t 103], none⟩,
    ⟨some 99, .mov (.t 104), none⟩,
    ⟨some 105, .ext (.t 99) 0, none⟩,
    ⟨some 106, .ext (.t 99) 1, none⟩,
    ⟨some 18, .mov (.t 105), none⟩,
    ⟨some 19, .mov (.t 106), none⟩] (some [3, 5, 7, 14, 18, 19]))
  (.seq
  (.ops false [
    ⟨some 107, .mov (.t 19), none⟩,
    ⟨some 108, .not (.t 107), none⟩,
    ⟨some 109, .mov (.t 108), none⟩,
    ⟨some 110, .mov (.t 18), some (109, false)⟩,
    ⟨some 111, .mov (.t 14), some (109, false)⟩,
    ⟨some 112, .bin .leq (.t 110) (.t 111), some (109, false)⟩,
    ⟨some 113, .pick (.t 109) (.k (.bool true)) (.t 112), none⟩] (some [3, 5, 7, 113]))
  (.cond (.t 113)
   (.seq
   (.ops false [
     ⟨some 6, .mov (.k (.bool false)), none⟩] (some [6]))
   .ret)
   .skip)))
  .skip))
 (.seq
 (.seq
 (.ops false [
   ⟨some 114, .load 6 true (.t 3) [], none⟩,
   ⟨some 115, .fld 0 (.t 5), none⟩,
   ⟨some 116, .load 1 false (.t 115) [], none⟩,
   ⟨some 117, .call 35 [.t 114, .t 116], none⟩,
   ⟨some 118, .not (.t 117), none⟩,
   ⟨some 119, .mov (.t 118), none⟩,
   ⟨some 120, .load 6 true (.t 3) [], some (119, false)⟩,
   ⟨some 121, .fld 1 (.t 5), some (119, false)⟩,
   ⟨some 122, .load 1 false (.t 121) [], some (119, false)⟩,
   ⟨some 123, .call 36 [.t 120, .t 122], some (119, false)⟩,
   ⟨some 124, .not (.t 123), some (119, false)⟩,
   ⟨some 125, .pick (.t 119) (.k (.bool true)) (.t 124), none⟩] (some [3, 5, 7, 125]))
 (.cond (.t 125)
  (.seq
  (.ops false [
    ⟨some 126, .call 15 [], none⟩,
    ⟨some 6, .mov (.t 126), none⟩] (some [6]))
  .ret)
  .skip))
 (.seq
 (.ops false [
   ⟨some 128, .load 6 true (.t 3) [], none⟩,
   ⟨some 129, .fld 0 (.t 5), none⟩,
   ⟨some 130, .load 1 false (.t 129) [], none⟩,
   ⟨some 131, .fld 1 (.t 5), none⟩,
   ⟨some 132, .load 1 false (.t 131) [], none⟩,
   ⟨some 133, .call 37 [.t 128, .t 130, .t 132], none⟩,
   ⟨some 127, .mov (.t 133), none⟩,
   ⟨some 134, .ext (.t 127) 0, none⟩,
   ⟨some 135, .ext (.t 127) 1, none⟩,
   ⟨some 20, .mov (.t 134), none⟩,
   ⟨some 21, .mov (.t 135), none⟩] (some [5, 7, 20, 21]))
 (.seq
 (.ops false [
   ⟨some 137, .load 6 true (.t 7) [], none⟩,
   ⟨some 138, .fld 0 (.t 5), none⟩,
   ⟨some 139, .load 1 false (.t 138) [], none⟩,
   ⟨some 140, .fld 1 (.t 5), none⟩,
   ⟨some 141, .load 1 false (.t 140) [], none⟩,
   ⟨some 142, .call 37 [.t 137, .t 139, .t 141], none⟩,
   ⟨some 136, .mov (.t 142), none⟩,
   ⟨some 143, .ext (.t 136) 0, none⟩,
   ⟨some 144, .ext (.t 136) 1, none⟩,
   ⟨some 22, .mov (.t 143), none⟩,
   ⟨some 23, .mov (.t 144), none⟩] (some [20, 21, 22, 23]))
 (.seq
 (.ops false [
   ⟨some 145, .mov (.t 21), none⟩,
   ⟨some 146, .bin .eql (.t 145) (.k (.int 0)), none⟩,
   ⟨some 147, .mov (.t 146), none⟩,
   ⟨some 148, .mov (.t 23), some (147, true)⟩,
   ⟨some 149, .bin .eql (.t 148) (.k (.int 0)), some (147, true)⟩,
   ⟨some 150, .pick (.t 147) (.t 149) (.k (.bool false)), none⟩,
   ⟨some 151, .mov (.t 150), none⟩,
   ⟨some 152, .mov (.t 20), some (151, true)⟩,
   ⟨some 153, .not (.t 152), some (151, true)⟩,
   ⟨some 154, .mov (.t 153), some (151, true)⟩,
   ⟨some 155, .mov (.t 22), some (154, false)⟩,
   ⟨some 156, .pick (.t 154) (.k (.bool true)) (.t 155), some (151, true)⟩,
   ⟨some 157, .pick (.t 151) (.t 156) (.k (.bool false)), none⟩,
   ⟨some 158, .mov (.t 157), none⟩,
   ⟨some 159, .call 15 [], some (158, true)⟩,
   ⟨some 160, .pick (.t 158) (.t 159) (.k (.bool false)), none⟩,
   ⟨some 6, .mov (.t 160), none⟩] (some [6]))
 .ret)))))))))))))))

theorem m7 : fmatch Try.prog Try.f7 3 [.tmp 6] v7 = true := by kernel_rfl

/-- steening/steeninglaw13.Far -/
def v14 : VC :=
 (.seq
 (.ops false [
   ⟨some 1, .box 1 6 (.t 0), none⟩,
   ⟨some 2, .mov (.k (.bool false)), none⟩] (some [1]))
 (.seq
 (.ops false [
   ⟨some 3, .fld 4 (.t 1), none⟩,
   ⟨some 4, .load 1 false (.t 3) [], none⟩,
   ⟨some 5, .call 47 [.t 4], none⟩,
   ⟨some 6, .mov (.t 5), none⟩,
   ⟨some 7, .fld 5 (.t 1), some (6, false)⟩,
   ⟨some 8, .load 1 false (.t 7) [], some (6, false)⟩,
   ⟨some 9, .call 47 [.t 8], some (6, false)⟩,
   ⟨some 10, .pick (.t 6) (.k (.bool true)) (.t 9), none⟩,
   ⟨some 11, .mov (.t 10), none⟩,
   ⟨some 12, .fld 4 (.t 1), some (11, false)⟩,
   ⟨some 13, .load 1 false (.t 12) [], some (11, false)⟩,
   ⟨some 14, .len (.t 13), some (11, false)⟩,
   ⟨some 15, .bin .gtr (.t 14) (.k (.int 4)), some (11, false)⟩,
   ⟨some 16, .mov (.t 15), some (11, false)⟩,
   ⟨some 17, .fld 5 (.t 1), some (16, true)⟩,
   ⟨some 18, .load 1 false (.t 17) [], some (16, true)⟩,
   ⟨some 19, .len (.t 18), some (16, true)⟩,
   ⟨some 20, .bin .gtr (.t 19) (.k (.int 4)), some (16, true)⟩,
   ⟨some 21, .pick (.t 16) (.t 20) (.k (.bool false)), some (11, false)⟩,
   ⟨some 22, .mov (.t 21), some (11, false)⟩,
   ⟨some 23, .load 6 true (.t 1) [], some (22, true)⟩,
   ⟨some 24, .call 49 [.t 23], some (22, true)⟩,
   ⟨some 25, .bin .eql (.t 24) (.k (.int 0)), some (22, true)⟩,
   ⟨some 26, .pick (.t 22) (.t 25) (.k (.bool false)), some (11, false)⟩,
   ⟨some 27, .pick (.t 11) (.k (.bool true)) (.t 26), none⟩,
   ⟨some 2, .mov (.t 27), none⟩] (some [2]))
 .ret))

theorem m14 : fmatch Try.prog Try.f14 1 [.tmp 2] v14 = true := by kernel_rfl

/-- steening/steeninglaw13.works -/
def v15 : VC :=
 (.seq
 (.ops false [
   ⟨some 0, .mov (.k (.bool false)), none⟩] (some []))
 (.seq
 (.ops false [
   ⟨some 14, .call 63 [], none⟩,
   ⟨some 1, .alloc 1 [.int 0, .int 0, .int 0, .int 0, .sl 3 [] .full, .sl 3 [] .full], none⟩,
   ⟨none, .store 6 (.t 1) (.t 14) (some 1), none⟩] (some [1]))
 (.seq
 (.ops false [
   ⟨some 16, .load 6 true (.t 1) [], none⟩,
   ⟨some 17, .call 41 [.t 16, .k (.int 0), .k (.int 0)], none⟩,
   ⟨some 15, .mov (.t 17), none⟩,
   ⟨some 18, .ext (.t 15) 0, none⟩,
   ⟨some 19, .ext (.t 15) 1, none⟩,
   ⟨some 2, .alloc 2 [.int 0, .int 0], none⟩,
   ⟨none, .store 2 (.t 2) (.t 18) (some 2), none⟩,
   ⟨some 3, .mov (.t 19), none⟩] (some [1, 2, 3]))
 (.seq
 (.ops false [
   ⟨some 21, .load 6 true (.t 1) [], none⟩,
   ⟨some 22, .call 28 [.t 21], none⟩,
   ⟨some 20, .mov (.t 22), none⟩,
   ⟨some 23, .ext (.t 20) 0, none⟩,
   ⟨some 24, .ext (.t 20) 1, none⟩,
   ⟨some 4, .mov (.t 23), none⟩,
   ⟨some 5, .mov (.t 24), none⟩] (some [1, 2, 3, 4, 5]))
 (.seq
 (.ops false [
   ⟨some 26, .load 6 true (.t 1) [], none⟩,
   ⟨some 27, .call 25 [.t 26, .k (.int 0)], none⟩,
   ⟨some 25, .mov (.t 27), none⟩,
   ⟨some 28, .ext (.t 25) 0, none⟩,
   ⟨some 29, .ext (.t 25) 1, none⟩,
   ⟨some 6, .alloc 6 [.int 0, .int 0], none⟩,
   ⟨none, .store 2 (.t 6) (.t 28) (some 6), none⟩,
   ⟨some 7, .mov (.t 29), none⟩] (some [1, 2, 3, 4, 5, 6, 7]))
 (.seq
 (.ops false [
   ⟨some 31, .load 6 true (.t 1) [], none⟩,
   ⟨some 32, .call 27 [.t 31, .k (.int 1)], none⟩,
   ⟨some 30, .mov (.t 32), none⟩,
   ⟨some 33, .ext (.t 30) 0, none⟩,
   ⟨some 34, .ext (.t 30) 1, none⟩,
   ⟨some 8, .mov (.t 33), none⟩,
   ⟨some 9, .mov (.t 34), none⟩] (some [1, 2, 3, 4, 5, 6, 7, 8, 9]))
 (.seq
 (.ops false [
   ⟨some 36, .load 6 true (.t 1) [], none⟩,
   ⟨some 37, .call 17 [.t 36], none⟩,
   ⟨some 35, .mov (.t 37), none⟩,
   ⟨some 38, .ext (.t 35) 0, none⟩,
   ⟨some 39, .ext (.t 35) 1, none⟩,
   ⟨some 10, .mov (.t 38), none⟩,
   ⟨some 11, .mov (.t 39), none⟩] (some [1, 2, 3, 4, 5, 6, 7, 8, 9, 10, 11]))
 (.seq
 (.ops false [
   ⟨some 41, .load 6 true (.t 1) [], none⟩,
   ⟨some 42, .call 19 [.t 41], none⟩,
   ⟨some 40, .mov (.t 42), none⟩,
   ⟨some 43, .ext (.t 40) 0, none⟩,
   ⟨some 44, .ext (.t 40) 1, none⟩,
   ⟨some 12, .mov (.t 43), none⟩,
   ⟨some 13, .mov (.t 44), none⟩] (some [2, 3, 4, 5, 6, 7, 8, 9, 10, 11, 12, 13]))
 (.seq
 (.ops false [
   ⟨some 45, .mov (.t 3), none⟩,
   ⟨some 46, .bin .eql (.t 45) (.k (.int 0)), none⟩,
   ⟨some 47, .mov (.t 46), none⟩,
   ⟨some 48, .mov (.t 5), some (47, true)⟩,
   ⟨some 49, .bin .eql (.t 48) (.k (.int 0)), some (47, true)⟩,
   ⟨some 50, .pick (.t 47) (.t 49) (.k (.bool false)), none⟩,
   ⟨some 51, .mov (.t 50), none⟩,
   ⟨some 52, .mov (.t 7), some (51, true)⟩,
   ⟨some 53, .bin .eql (.t 52) (.k (.int 0)), some (51, true)⟩,
   ⟨some 54, .pick (.t 51) (.t 53) (.k (.bool false)), none⟩,
   ⟨some 55, .mov (.t 54), none⟩,
   ⟨some 56, .mov (.t 9), some (55, true)⟩,
   ⟨some 57, .bin .eql (.t 56) (.k (.int 0)), some (55, true)⟩,
   ⟨some 58, .pick (.t 55) (.t 57) (.k (.bool false)), none⟩,
   ⟨some 59, .mov (.t 58), none⟩,
   ⟨some 60, .mov (.t 11), some (59, true)⟩,
   ⟨some 61, .bin .eql (.t 60) (.k (.int 0)), some (59, true)⟩,
   ⟨some 62, .pick (.t 59) (.t 61) (.k (.bool false)), none⟩,
   ⟨some 63, .mov (.t 62), none⟩,
   ⟨some 64, .mov (.t 13), some (63, true)⟩,
   ⟨some 65, .bin .eql (.t 64) (.k (.int 0)), some (63, true)⟩,
   ⟨some 66, .pick (.t 63) (.t 65) (.k (.bool false)), none⟩,
   ⟨some 67, .mov (.t 66), none⟩,
   ⟨some 68, .load 2 true (.t 2) [], some (67, true)⟩,
   ⟨some 69, .build [.int 0, .int 0] [(0, 1, .k (.int 14)), (1, 1, .k (.int 15))], some (67, true)⟩,
   ⟨some 70, .bin (.seq 2) (.t 68) (.t 69), some (67, true)⟩,
   ⟨some 71, .pick (.t 67) (.t 70) (.k (.bool false)), none⟩,
   ⟨some 72, .mov (.t 71), none⟩,
   ⟨some 73, .mov (.t 4), some (72, true)⟩,
   ⟨some 74, .bin .eql (.t 73) (.k (.int 4)), some (72, true)⟩,
   ⟨some 75, .pick (.t 72) (.t 74) (.k (.bool false)), none⟩,
   ⟨some 76, .mov (.t 75), none⟩,
   ⟨some 77, .load 2 true (.t 6) [], some (76, true)⟩,
   ⟨some 78, .build [.int 0, .int 0] [(0, 1, .k (.int 17)), (1, 1, .k (.int 32))], some (76, true)⟩,
   ⟨some 79, .bin (.seq 2) (.t 77) (.t 78), some (76, true)⟩,
   ⟨some 80, .pick (.t 76) (.t 79) (.k (.bool false)), none⟩,
   ⟨some 81, .mov (.t 80), none⟩,
   ⟨some 82, .mov (.t 8), some (81, true)⟩,
   ⟨some 83, .bslice 1 [.k (.int 1)], some (81, true)⟩,
   ⟨some 84, .call 62 [.t 82, .t 83], some (81, true)⟩,
   ⟨some 85, .pick (.t 81) (.t 84) (.k (.bool false)), none⟩,
   ⟨some 86, .mov (.t 85), none⟩,
   ⟨some 87, .mov (.t 10), some (86, true)⟩,
   ⟨some 88, .bin .eql (.t 87) (.k (.int 1)), some (86, true)⟩,
   ⟨some 89, .pick (.t 86) (.t 88) (.k (.bool false)), none⟩,
   ⟨some 90, .mov (.t 89), none⟩,
   ⟨some 91, .mov (.t 12), some (90, true)⟩,
   ⟨some 92, .bin .eql (.t 91) (.k (.int 5)), some (90, true)⟩,
   ⟨some 93, .pick (.t 90) (.t 92) (.k (.bool false)), none⟩,
   ⟨some 0, .mov (.t 93), none⟩] (some [0]))
 .ret)))))))))

theorem m15 : fmatch Try.prog Try.f15 0 [.tmp 0] v15 = true := by kernel_rfl

/-- steening/steeningref13.Copy -/
def v16 : VC :=
 (.seq
 (.ops false [
   ⟨some 1, .box 1 6 (.t 0), none⟩,
   ⟨some 2, .alloc 2 [.int 0, .int 0, .int 0, .int 0, .sl 3 [] .full, .sl 3 [] .full], none⟩] (some [1, 2]))
 (.seq
 (.ops false [
   ⟨some 4, .load 6 true (.t 1) [], none⟩,
   ⟨some 3, .alloc 3 [.int 0, .int 0, .int 0, .int 0, .sl 3 [] .full, .sl 3 [] .full], none⟩,
   ⟨none, .store 6 (.t 3) (.t 4) (some 3), none⟩] (some [1, 2, 3]))
 (.seq
 (.ops true [
   ⟨some 5, .fld 4 (.t 1), none⟩,
   ⟨some 6, .load 1 false (.t 5) [], none⟩,
   ⟨some 7, .call 26 [.t 6], none⟩,
   ⟨some 8, .fld 5 (.t 1), none⟩,
   ⟨some 9, .load 1 false (.t 8) [], none⟩,
   ⟨some 10, .call 26 [.t 9], none⟩,
   ⟨some 11, .fld 4 (.t 3), none⟩,
   ⟨none, .store 1 (.t 11) (.t 7) (some 3), none⟩,
   ⟨some 12, .fld 5 (.t 3), none⟩,
   ⟨none, .store 1 (.t 12) (.t 10) (some 3), none⟩] (some [2, 3]))
 (.seq
 (.ops false [
   ⟨some 13, .load 6 true (.t 3) [], none⟩,
   ⟨none, .store 6 (.t 2) (.t 13) (some 2), none⟩] (some [2]))
 .ret))))

theorem m16 : fmatch Try.prog Try.f16 1 [.cell 2 24] v16 = true := by kernel_rfl

/-- steening/fines.Days -/
def v17 : VC :=
 (.seq
 (.ops false [
   ⟨some 1, .box 1 6 (.t 0), none⟩,
   ⟨some 2, .mov (.k (.int 0)), none⟩,
   ⟨some 3, .mov (.k (.int 0)), none⟩] (some [1]))
 (.seq
 (.seq
 (.ops false [
   ⟨some 11, .load 6 true (.t 1) [], none⟩,
   ⟨some 12, .call 48 [.t 11], none⟩,
   ⟨some 4, .mov (.t 12), none⟩] (some [1, 4]))
 (.seq
 (.ops false [
   ⟨some 13, .mov (.t 4), none⟩,
   ⟨some 14, .bin .neq (.t 13) (.k (.int 0)), none⟩] (some [1, 4, 14]))
 (.cond (.t 14)
  (.seq
  (.ops false [
    ⟨some 15, .mov (.t 4), none⟩,
    ⟨some 2, .mov (.k (.int 0)), none⟩,
    ⟨some 3, .mov (.t 15), none⟩] (some [2, 3]))
  .ret)
  .skip)))
 (.seq
 (.ops false [
   ⟨some 5, .mov (.k (.int (-1))), none⟩] (some [1, 5]))
 (.seq
 (.seq
 (.ops false [
   ⟨some 16, .load 6 true (.t 1) [], none⟩,
   ⟨some 17, .call 64 [.t 16], none⟩,
   ⟨some 18, .len (.t 17), none⟩,
   ⟨some 19, .mov (.k (.int 0)), none⟩] (some [1, 5, 17, 18, 19]))
 (.block 0
  (.loop
   (.seq
   (.ops false [
     ⟨some 20, .bin .lss (.t 19) (.t 18), none⟩] (some [1, 5, 17, 18, 19, 20]))
   (.seq
   (.cond (.t 20)
    .skip
    (.exit 0))
   (.seq
   (.block 1
    (.seq
    (.ops false [
      ⟨some 21, .idx 1 (.t 17) (.t 19), none⟩,
      ⟨some 22, .load 1 false (.t 21) [], none⟩,
      ⟨some 7, .mov (.t 22), none⟩] (some [1, 5, 7, 17, 18, 19]))
    (.seq
    (.ops false [
      ⟨some 8, .mov (.k (.int 0)), none⟩] (some [1, 5, 7, 8, 17, 18, 19]))
    (.seq
    (.seq
    (.ops false [
      ⟨some 23, .mov (.t 7), none⟩,
      ⟨some 24, .len (.t 23), none⟩,
      ⟨some 25, .mov (.k (.int 0)), none⟩] (some [1, 5, 8, 17, 18, 19, 23, 24, 25]))
    (.block 2
     (.loop
      (.seq
      (.ops false [
        ⟨some 26, .bin .lss (.t 25) (.t 24), none⟩] (some [1, 5, 8, 17, 18, 19, 23, 24, 25, 26]))
      (.seq
      (.cond (.t 26)
       .skip
       (.exit 2))
      (.seq
      (.block 3
       (.seq
       (.ops false [
         ⟨some 27, .idx 2 (.t 23) (.t 25), none⟩,
         ⟨some 28, .load 2 true (.t 27) [], none⟩,
         ⟨some 10, .alloc 10 [.int 0, .int 0], none⟩,
         ⟨none, .store 2 (.t 10) (.t 28) (some 10), none⟩] (some [1, 5, 8, 10, 17, 18, 19, 23, 24, 25]))
       (.ops true [
         ⟨some 29, .mov (.t 8), none⟩,
         ⟨some 30, .fld 4 (.t 1), none⟩,
         ⟨some 31, .load 1 false (.t 30) [], none⟩,
         ⟨some 32, .fld 0 (.t 10), none⟩,
         ⟨some 33, .load 1 false (.t 32) [], none⟩,
         ⟨some 34, .idx 3 (.t 31) (.t 33), none⟩,
         ⟨some 35, .load 3 true (.t 34) [], none⟩,
         ⟨some 36, .fld 5 (.t 1), none⟩,
         ⟨some 37, .load 1 false (.t 36) [], none⟩,
         ⟨some 38, .fld 1 (.t 10), none⟩,
         ⟨some 39, .load 1 false (.t 38) [], none⟩,
         ⟨some 40, .idx 3 (.t 37) (.t 39), none⟩,
         ⟨some 41, .load 3 true (.t 40) [], none⟩,
         ⟨some 42, .call 65 [.t 35, .t 41], none⟩,
         ⟨some 43, .bin .add (.t 29) (.t 42), none⟩,
         ⟨some 8, .mov (.t 43), none⟩] (some [1, 5, 8, 17, 18, 19, 23, 24, 25]))))
      (.ops false [
        ⟨some 44, .bin .add (.t 25) (.k (.int 1)), none⟩,
        ⟨some 25, .mov (.t 44), none⟩] (some [1, 5, 8, 17, 18, 19, 23, 24, 25]))))))))
    (.seq
    (.ops false [
      ⟨some 45, .mov (.t 5), none⟩,
      ⟨some 46, .bin .lss (.t 45) (.k (.int 0)), none⟩,
      ⟨some 47, .mov (.t 46), none⟩,
      ⟨some 48, .mov (.t 8), some (47, false)⟩,
      ⟨some 49, .mov (.t 5), some (47, false)⟩,
      ⟨some 50, .bin .lss (.t 48) (.t 49), some (47, false)⟩,
      ⟨some 51, .pick (.t 47) (.k (.bool true)) (.t 50), none⟩] (some [1, 5, 8, 17, 18, 19, 51]))
    (.cond (.t 51)
     (.ops false [
       ⟨some 52, .mov (.t 8), none⟩,
       ⟨some 5, .mov (.t 52), none⟩] (some [1, 5, 17, 18, 19]))
     .skip))))))
   (.ops false [
     ⟨some 53, .bin .add (.t 19) (.k (.int 1)), none⟩,
     ⟨some 19, .mov (.t 53), none⟩] (some [1, 5, 17, 18, 19]))))))))
 (.seq
 (.ops false [
   ⟨some 54, .mov (.t 5), none⟩,
   ⟨some 2, .mov (.t 54), none⟩,
   ⟨some 3, .mov (.k (.int 0)), none⟩] (some [2, 3]))
 .ret)))))

theorem m17 : fmatch Try.prog Try.f17 1 [.tmp 2, .tmp 3] v17 = true := by kernel_rfl

/-- steening/steeningref13.Days -/
def v18 : VC :=
 (.seq
 (.ops false [
   ⟨some 1, .box 1 6 (.t 0), none⟩,
   ⟨some 2, .mov (.k (.int 0)), none⟩,
   ⟨some 3, .mov (.k (.int 0)), none⟩] (some [1]))
 (.seq
 (.seq
 (.ops false [
   ⟨some 8, .load 6 true (.t 1) [], none⟩,
   ⟨some 9, .call 49 [.t 8], none⟩,
   ⟨some 4, .mov (.t 9), none⟩] (some [1, 4]))
 (.seq
 (.ops false [
   ⟨some 10, .mov (.t 4), none⟩,
   ⟨some 11, .bin .neq (.t 10) (.k (.int 0)), none⟩] (some [1, 4, 11]))
 (.cond (.t 11)
  (.seq
  (.ops false [
    ⟨some 12, .mov (.t 4), none⟩,
    ⟨some 2, .mov (.k (.int 0)), none⟩,
    ⟨some 3, .mov (.t 12), none⟩] (some [2, 3]))
  .ret)
  .skip)))
 (.seq
 (.ops false [
   ⟨some 13, .load 6 true (.t 1) [], none⟩,
   ⟨some 14, .call 66 [.t 13], none⟩,
   ⟨some 5, .mov (.t 14), none⟩] (some [1, 5]))
 (.seq
 (.ops true [
   ⟨some 15, .load 6 true (.t 1) [], none⟩,
   ⟨some 16, .mov (.t 5), none⟩,
   ⟨some 17, .idx 1 (.t 16) (.k (.int 0)), none⟩,
   ⟨some 18, .load 1 false (.t 17) [], none⟩,
   ⟨some 19, .call 55 [.t 15, .t 18], none⟩,
   ⟨some 6, .mov (.t 19), none⟩] (some [1, 5, 6]))
 (.seq
 (.seq
 (.ops false [
   ⟨some 7, .mov (.k (.int 0)), none⟩] (some [1, 5, 6, 7]))
 (.block 0
  (.loop
   (.seq
   (.seq
   (.ops false [
     ⟨some 20, .mov (.t 7), none⟩,
     ⟨some 21, .mov (.t 5), none⟩,
     ⟨some 22, .len (.t 21), none⟩,
     ⟨some 23, .bin .lss (.t 20) (.t 22), none⟩] (some [1, 5, 6, 7, 23]))
   (.cond (.t 23)
    .skip
    (.exit 0)))
   (.seq
   (.block 1
    (.ops true [
      ⟨some 26, .mov (.t 6), none⟩,
      ⟨some 27, .load 6 true (.t 1) [], none⟩,
      ⟨some 28, .mov (.t 5), none⟩,
      ⟨some 29, .mov (.t 7), none⟩,
      ⟨some 30, .idx 1 (.t 28) (.t 29), none⟩,
      ⟨some 31, .load 1 false (.t 30) [], none⟩,
      ⟨some 32, .call 55 [.t 27, .t 31], none⟩,
      ⟨some 33, .min (.t 26) (.t 32), none⟩,
      ⟨some 6, .mov (.t 33), none⟩] (some [1, 5, 6, 7])))
   (.ops false [
     ⟨some 24, .mov (.t 7), none⟩,
     ⟨some 25, .bin .add (.t 24) (.k (.int 1)), none⟩,
     ⟨some 7, .mov (.t 25), none⟩] (some [1, 5, 6, 7])))))))
 (.seq
 (.ops false [
   ⟨some 34, .mov (.t 6), none⟩,
   ⟨some 2, .mov (.t 34), none⟩,
   ⟨some 3, .mov (.k (.int 0)), none⟩] (some [2, 3]))
 .ret))))))

theorem m18 : fmatch Try.prog Try.f18 1 [.tmp 2, .tmp 3] v18 = true := by kernel_rfl

/-- steening/fines.Late -/
def v19 : VC :=
 (.seq
 (.ops false [
   ⟨some 1, .box 1 6 (.t 0), none⟩,
   ⟨some 2, .mov (.k (.int 0)), none⟩,
   ⟨some 3, .mov (.k (.int 0)), none⟩] (some [1]))
 (.seq
 (.seq
 (.ops false [
   ⟨some 6, .load 6 true (.t 1) [], none⟩,
   ⟨some 7, .call 48 [.t 6], none⟩,
   ⟨some 4, .mov (.t 7), none⟩] (some [1, 4]))
 (.seq
 (.ops false [
   ⟨some 8, .mov (.t 4), none⟩,
   ⟨some 9, .bin .neq (.t 8) (.k (.int 0)), none⟩] (some [1, 4, 9]))
 (.cond (.t 9)
  (.seq
  (.ops false [
    ⟨some 10, .mov (.t 4), none⟩,
    ⟨some 2, .mov (.k (.int 0)), none⟩,
    ⟨some 3, .mov (.t 10), none⟩] (some [2, 3]))
  .ret)
  .skip)))
 (.seq
 (.ops false [
   ⟨some 11, .fld 3 (.t 1), none⟩,
   ⟨none, .store 1 (.t 11) (.k (.int 30)) (some 1), none⟩] (some [1]))
 (.seq
 (.ops false [
   ⟨some 12, .load 6 true (.t 1) [], none⟩,
   ⟨some 13, .call 67 [.t 12], none⟩,
   ⟨some 5, .mov (.t 13), none⟩] (some [1, 5]))
 (.seq
 (.seq
 (.ops false [
   ⟨some 14, .fld 3 (.t 1), none⟩,
   ⟨none, .store 1 (.t 14) (.k (.int 0)) (some 1), none⟩] (some [1, 5]))
 (.block 0
  (.loop
   (.seq
   (.seq
   (.ops false [
     ⟨some 15, .load 6 true (.t 1) [], none⟩,
     ⟨some 16, .call 67 [.t 15], none⟩,
     ⟨some 17, .mov (.t 5), none⟩,
     ⟨some 18, .bin .gtr (.t 16) (.t 17), none⟩] (some [1, 5, 18]))
   (.cond (.t 18)
    .skip
    (.exit 0)))
   (.seq
   (.block 1
    .skip)
   (.ops false [
     ⟨some 19, .fld 3 (.t 1), none⟩,
     ⟨some 20, .load 1 false (.t 19) [], none⟩,
     ⟨some 21, .bin .add (.t 20) (.k (.int 1)), none⟩,
     ⟨some 22, .fld 3 (.t 1), none⟩,
     ⟨none, .store 1 (.t 22) (.t 21) (some 1), none⟩] (some [1, 5])))))))
 (.seq
 (.ops false [
   ⟨some 23, .fld 3 (.t 1), none⟩,
   ⟨some 24, .load 1 false (.t 23) [], none⟩,
   ⟨some 2, .mov (.t 24), none⟩,
   ⟨some 3, .mov (.k (.int 0)), none⟩] (some [2, 3]))
 .ret))))))

theorem m19 : fmatch Try.prog Try.f19 1 [.tmp 2, .tmp 3] v19 = true := by kernel_rfl

/-- steening/steeningref13.Late -/
def v20 : VC :=
 (.seq
 (.ops false [
   ⟨some 1, .box 1 6 (.t 0), none⟩,
   ⟨some 2, .mov (.k (.int 0)), none⟩,
   ⟨some 3, .mov (.k (.int 0)), none⟩] (some [1]))
 (.seq
 (.seq
 (.ops false [
   ⟨some 7, .load 6 true (.t 1) [], none⟩,
   ⟨some 8, .call 49 [.t 7], none⟩,
   ⟨some 4, .mov (.t 8), none⟩] (some [1, 4]))
 (.seq
 (.ops false [
   ⟨some 9, .mov (.t 4), none⟩,
   ⟨some 10, .bin .neq (.t 9) (.k (.int 0)), none⟩] (some [1, 4, 10]))
 (.cond (.t 10)
  (.seq
  (.ops false [
    ⟨some 11, .mov (.t 4), none⟩,
    ⟨some 2, .mov (.k (.int 0)), none⟩,
    ⟨some 3, .mov (.t 11), none⟩] (some [2, 3]))
  .ret)
  .skip)))
 (.seq
 (.ops false [
   ⟨some 12, .load 6 true (.t 1) [], none⟩,
   ⟨some 13, .call 34 [.t 12, .k (.int 30)], none⟩,
   ⟨some 14, .call 66 [.t 13], none⟩,
   ⟨some 15, .idx 1 (.t 14) (.k (.int 0)), none⟩,
   ⟨some 16, .load 1 false (.t 15) [], none⟩,
   ⟨some 17, .len (.t 16), none⟩,
   ⟨some 5, .mov (.t 17), none⟩] (some [1, 5]))
 (.seq
 (.ops false [
   ⟨some 6, .mov (.k (.int 0)), none⟩] (some [1, 5, 6]))
 (.seq
 (.block 0
  (.loop
   (.seq
   (.seq
   (.ops false [
     ⟨some 18, .load 6 true (.t 1) [], none⟩,
     ⟨some 19, .mov (.t 6), none⟩,
     ⟨some 20, .call 34 [.t 18, .t 19], none⟩,
     ⟨some 21, .call 66 [.t 20], none⟩,
     ⟨some 22, .idx 1 (.t 21) (.k (.int 0)), none⟩,
     ⟨some 23, .load 1 false (.t 22) [], none⟩,
     ⟨some 24, .len (.t 23), none⟩,
     ⟨some 25, .mov (.t 5), none⟩,
     ⟨some 26, .bin .lss (.t 24) (.t 25), none⟩] (some [1, 5, 6, 26]))
   (.cond (.t 26)
    .skip
    (.exit 0)))
   (.block 1
    (.ops false [
      ⟨some 27, .mov (.t 6), none⟩,
      ⟨some 28, .bin .add (.t 27) (.k (.int 1)), none⟩,
      ⟨some 6, .mov (.t 28), none⟩] (some [1, 5, 6]))))))
 (.seq
 (.ops false [
   ⟨some 29, .mov (.t 6), none⟩,
   ⟨some 2, .mov (.t 29), none⟩,
   ⟨some 3, .mov (.k (.int 0)), none⟩] (some [2, 3]))
 .ret))))))

theorem m20 : fmatch Try.prog Try.f20 1 [.tmp 2, .tmp 3] v20 = true := by kernel_rfl

/-- steening/steeninglaw13.Same -/
def v21 : VC :=
 (.seq
 (.ops false [
   ⟨some 2, .box 2 6 (.t 0), none⟩,
   ⟨some 3, .box 3 6 (.t 1), none⟩,
   ⟨some 4, .mov (.k (.bool false)), none⟩] (some [2, 3]))
 (.seq
 (.ops false [
   ⟨some 5, .fld 0 (.t 2), none⟩,
   ⟨some 6, .load 1 false (.t 5) [], none⟩,
   ⟨some 7, .fld 0 (.t 3), none⟩,
   ⟨some 8, .load 1 false (.t 7) [], none⟩,
   ⟨some 9, .bin .eql (.t 6) (.t 8), none⟩,
   ⟨some 10, .mov (.t 9), none⟩,
   ⟨some 11, .fld 1 (.t 2), some (10, true)⟩,
   ⟨some 12, .load 1 false (.t 11) [], some (10, true)⟩,
   ⟨some 13, .fld 1 (.t 3), some (10, true)⟩,
   ⟨some 14, .load 1 false (.t 13) [], some (10, true)⟩,
   ⟨some 15, .bin .eql (.t 12) (.t 14), some (10, true)⟩,
   ⟨some 16, .pick (.t 10) (.t 15) (.k (.bool false)), none⟩,
   ⟨some 17, .mov (.t 16), none⟩,
   ⟨some 18, .fld 2 (.t 2), some (17, true)⟩,
   ⟨some 19, .load 1 false (.t 18) [], some (17, true)⟩,
   ⟨some 20, .fld 2 (.t 3), some (17, true)⟩,
   ⟨some 21, .load 1 false (.t 20) [], some (17, true)⟩,
   ⟨some 22, .bin .eql (.t 19) (.t 21), some (17, true)⟩,
   ⟨some 23, .pick (.t 17) (.t 22) (.k (.bool false)), none⟩,
   ⟨some 24, .mov (.t 23), none⟩,
   ⟨some 25, .fld 3 (.t 2), some (24, true)⟩,
   ⟨some 26, .load 1 false (.t 25) [], some (24, true)⟩,
   ⟨some 27, .fld 3 (.t 3), some (24, true)⟩,
   ⟨some 28, .load 1 false (.t 27) [], some (24, true)⟩,
   ⟨some 29, .bin .eql (.t 26) (.t 28), some (24, true)⟩,
   ⟨some 30, .pick (.t 24) (.t 29) (.k (.bool false)), none⟩,
   ⟨some 31, .mov (.t 30), none⟩,
   ⟨some 32, .fld 4 (.t 2), some (31, true)⟩,
   ⟨some 33, .load 1 false (.t 32) [], some (31, true)⟩,
   ⟨some 34, .fld 4 (.t 3), some (31, true)⟩,
   ⟨some 35, .load 1 false (.t 34) [], some (31, true)⟩,
   ⟨some 36, .call 68 [.t 33, .t 35], some (31, true)⟩,
   ⟨some 37, .pick (.t 31) (.t 36) (.k (.bool false)), none⟩,
   ⟨some 38, .mov (.t 37), none⟩,
   ⟨some 39, .fld 5 (.t 2), some (38, true)⟩,
   ⟨some 40, .load 1 false (.t 39) [], some (38, true)⟩,
   ⟨some 41, .fld 5 (.t 3), some (38, true)⟩,
   ⟨some 42, .load 1 false (.t 41) [], some (38, true)⟩,
   ⟨some 43, .call 68 [.t 40, .t 42], some (38, true)⟩,
   ⟨some 44, .pick (.t 38) (.t 43) (.k (.bool false)), none⟩,
   ⟨some 4, .mov (.t 44), none⟩] (some [4]))
 .ret))

theorem m21 : fmatch Try.prog Try.f21 2 [.tmp 4] v21 = true := by kernel_rfl

/-- steening/steeninglaw13.ready -/
def v22 : VC :=
 (.seq
 (.ops false [
   ⟨some 1, .box 1 6 (.t 0), none⟩,
   ⟨some 2, .mov (.k (.bool false)), none⟩] (some [1]))
 (.seq
 (.ops false [
   ⟨some 3, .fld 4 (.t 1), none⟩,
   ⟨some 4, .load 1 false (.t 3) [], none⟩,
   ⟨some 5, .call 47 [.t 4], none⟩,
   ⟨some 6, .not (.t 5), none⟩,
   ⟨some 7, .mov (.t 6), none⟩,
   ⟨some 8, .fld 5 (.t 1), some (7, true)⟩,
   ⟨some 9, .load 1 false (.t 8) [], some (7, true)⟩,
   ⟨some 10, .call 47 [.t 9], some (7, true)⟩,
   ⟨some 11, .not (.t 10), some (7, true)⟩,
   ⟨some 12, .pick (.t 7) (.t 11) (.k (.bool false)), none⟩,
   ⟨some 13, .mov (.t 12), none⟩,
   ⟨some 14, .load 6 true (.t 1) [], some (13, true)⟩,
   ⟨some 15, .call 49 [.t 14], some (13, true)⟩,
   ⟨some 16, .bin .eql (.t 15) (.k (.int 0)), some (13, true)⟩,
   ⟨some 17, .pick (.t 13) (.t 16) (.k (.bool false)), none⟩,
   ⟨some 2, .mov (.t 17), none⟩] (some [2]))
 .ret))

theorem m22 : fmatch Try.prog Try.f22 1 [.tmp 2] v22 = true := by kernel_rfl

/-- steening/steeninglaw13.fewest -/
def v23 : VC :=
 (.seq
 (.ops false [
   ⟨some 1, .box 1 6 (.t 0), none⟩,
   ⟨some 2, .mov (.k (.int 0)), none⟩,
   ⟨some 3, .mov (.k (.bool false)), none⟩] (some [1]))
 (.seq
 (.ops false [
   ⟨some 8, .load 6 true (.t 1) [], none⟩,
   ⟨some 9, .call 28 [.t 8], none⟩,
   ⟨some 7, .mov (.t 9), none⟩,
   ⟨some 10, .ext (.t 7) 0, none⟩,
   ⟨some 11, .ext (.t 7) 1, none⟩,
   ⟨some 4, .mov (.t 10), none⟩,
   ⟨some 5, .mov (.t 11), none⟩] (some [1, 4, 5]))
 (.seq
 (.ops false [
   ⟨some 12, .fld 4 (.t 1), none⟩,
   ⟨some 13, .load 1 false (.t 12) [], none⟩,
   ⟨some 14, .len (.t 13), none⟩,
   ⟨some 15, .fld 5 (.t 1), none⟩,
   ⟨some 16, .load 1 false (.t 15) [], none⟩,
   ⟨some 17, .len (.t 16), none⟩,
   ⟨some 18, .bin .add (.t 14) (.t 17), none⟩,
   ⟨some 6, .mov (.t 18), none⟩] (some [1, 4, 5, 6]))
 (.seq
 (.ops false [
   ⟨some 19, .mov (.t 4), none⟩,
   ⟨some 20, .mov (.t 5), none⟩,
   ⟨some 21, .bin .eql (.t 20) (.k (.int 0)), none⟩,
   ⟨some 22, .mov (.t 21), none⟩,
   ⟨some 23, .mov (.t 4), some (22, true)⟩,
   ⟨some 24, .fld 4 (.t 1), some (22, true)⟩,
   ⟨some 25, .load 1 false (.t 24) [], some (22, true)⟩,
   ⟨some 26, .len (.t 25), some (22, true)⟩,
   ⟨some 27, .fld 5 (.t 1), some (22, true)⟩,
   ⟨some 28, .load 1 false (.t 27) [], some (22, true)⟩,
   ⟨some 29, .len (.t 28), some (22, true)⟩,
   ⟨some 30, .max (.t 26) (.t 29), some (22, true)⟩,
   ⟨some 31, .bin .geq (.t 23) (.t 30), some (22, true)⟩,
   ⟨some 32, .pick (.t 22) (.t 31) (.k (.bool false)), none⟩,
   ⟨some 33, .mov (.t 32), none⟩,
   ⟨some 34, .mov (.t 4), some (33, true)⟩,
   ⟨some 35, .mov (.t 6), some (33, true)⟩,
   ⟨some 36, .bin .leq (.t 34) (.t 35), some (33, true)⟩,
   ⟨some 37, .pick (.t 33) (.t 36) (.k (.bool false)), none⟩,
   ⟨some 2, .mov (.t 19), none⟩,
   ⟨some 3, .mov (.t 37), none⟩] (some [2, 3]))
 .ret))))

theorem m23 : fmatch Try.prog Try.f23 1 [.tmp 2, .tmp 3] v23 = true := by kernel_rfl

/-- steening/steeningref13.Of -/
def v24 : VC :=
 (.seq
 (.ops false [
   ⟨some 2, .box 2 6 (.t 0), none⟩,
   ⟨some 4, .alloc 4 [.int 0, .int 0, .int 0, .int 0, .sl 3 [] .full, .sl 3 [] .full], none⟩] (some [1, 2, 4]))
 (.seq
 (.ops false [
   ⟨some 6, .load 6 true (.t 2) [], none⟩,
   ⟨some 7, .call 16 [.t 6], none⟩,
   ⟨some 5, .alloc 5 [.int 0, .int 0, .int 0, .int 0, .sl 3 [] .full, .sl 3 [] .full], none⟩,
   ⟨none, .store 6 (.t 5) (.t 7) (some 5), none⟩] (some [1, 4, 5]))
 (.seq
 (.ops true [
   ⟨some 8, .fld 4 (.t 5), none⟩,
   ⟨some 9, .load 1 false (.t 8) [], none⟩,
   ⟨some 10, .mov (.t 1), none⟩,
   ⟨some 11, .call 69 [.t 9, .t 10], none⟩,
   ⟨some 12, .fld 5 (.t 5), none⟩,
   ⟨some 13, .load 1 false (.t 12) [], none⟩,
   ⟨some 14, .mov (.t 1), none⟩,
   ⟨some 15, .call 69 [.t 13, .t 14], none⟩,
   ⟨some 16, .fld 4 (.t 5), none⟩,
   ⟨none, .store 1 (.t 16) (.t 11) (some 5), none⟩,
   ⟨some 17, .fld 5 (.t 5), none⟩,
   ⟨none, .store 1 (.t 17) (.t 15) (some 5), none⟩] (some [4, 5]))
 (.seq
 (.ops false [
   ⟨some 18, .load 6 true (.t 5) [], none⟩,
   ⟨none, .store 6 (.t 4) (.t 18) (some 4), none⟩] (some [4]))
 .ret))))

theorem m24 : fmatch Try.prog Try.f24 2 [.cell 4 24] v24 = true := by kernel_rfl

/-- steening/fines.Owed -/
def v25 : VC :=
 (.seq
 (.ops false [
   ⟨some 2, .box 2 6 (.t 0), none⟩,
   ⟨some 4, .alloc 4 [.int 0, .int 0], none⟩,
   ⟨some 5, .mov (.k (.int 0)), none⟩] (some [1, 2, 4]))
 (.seq
 (.seq
 (.ops true [
   ⟨some 12, .load 6 true (.t 2) [], none⟩,
   ⟨some 13, .mov (.t 1), none⟩,
   ⟨some 14, .fld 2 (.t 2), none⟩,
   ⟨some 15, .load 1 false (.t 14) [], none⟩,
   ⟨some 16, .bin .sub (.t 15) (.k (.int 1)), none⟩,
   ⟨some 17, .call 71 [.t 13, .k (.int 0), .t 16], none⟩,
   ⟨some 18, .call 70 [.t 12, .t 17], none⟩,
   ⟨some 6, .mov (.t 18), none⟩] (some [1, 2, 4, 6]))
 (.seq
 (.ops false [
   ⟨some 19, .mov (.t 6), none⟩,
   ⟨some 20, .bin .neq (.t 19) (.k (.int 0)), none⟩] (some [1, 2, 4, 6, 20]))
 (.cond (.t 20)
  (.seq
  (.ops false [
    ⟨some 21, .build [.int 0, .int 0] [], none⟩,
    ⟨some 22, .mov (.t 6), none⟩,
    ⟨none, .store 2 (.t 4) (.t 21) (some 4), none⟩,
    ⟨some 5, .mov (.t 22), none⟩] (some [4, 5]))
  .ret)
  .skip)))
 (.seq
 (.ops false [
   ⟨some 23, .load 6 true (.t 2) [], none⟩,
   ⟨some 24, .call 64 [.t 23], none⟩,
   ⟨some 7, .mov (.t 24), none⟩] (some [1, 2, 4, 7]))
 (.seq
 (.ops true [
   ⟨some 25, .mov (.t 7), none⟩,
   ⟨some 26, .idx 1 (.t 25) (.k (.int 0)), none⟩,
   ⟨some 27, .load 1 false (.t 26) [8], none⟩,
   ⟨some 28, .load 6 true (.t 2) [8], none⟩,
   ⟨some 29, .mov (.t 1), none⟩,
   ⟨some 30, .call 72 [.t 27, .t 28, .t 29], none⟩,
   ⟨some 8, .alloc 8 [.int 0, .int 0], none⟩,
   ⟨none, .store 2 (.t 8) (.t 30) (some 8), none⟩] (some [1, 2, 4, 7, 8]))
 (.seq
 (.seq
 (.ops false [
   ⟨some 31, .mov (.t 7), none⟩,
   ⟨some 32, .len (.t 31), none⟩,
   ⟨some 33, .mov (.k (.int 0)), none⟩] (some [1, 2, 4, 8, 31, 32, 33]))
 (.block 0
  (.loop
   (.seq
   (.ops false [
     ⟨some 34, .bin .lss (.t 33) (.t 32), none⟩] (some [1, 2, 4, 8, 31, 32, 33, 34]))
   (.seq
   (.cond (.t 34)
    .skip
    (.exit 0))
   (.seq
   (.block 1
    (.seq
    (.ops false [
      ⟨some 35, .idx 1 (.t 31) (.t 33), none⟩,
      ⟨some 36, .load 1 false (.t 35) [], none⟩,
      ⟨some 10, .mov (.t 36), none⟩] (some [1, 2, 4, 8, 10, 31, 32, 33]))
    (.seq
    (.ops false [
      ⟨some 37, .mov (.t 10), none⟩,
      ⟨some 38, .load 6 true (.t 2) [], none⟩,
      ⟨some 39, .mov (.t 1), none⟩,
      ⟨some 40, .call 72 [.t 37, .t 38, .t 39], none⟩,
      ⟨some 11, .alloc 11 [.int 0, .int 0], none⟩,
      ⟨none, .store 2 (.t 11) (.t 40) (some 11), none⟩] (some [1, 2, 4, 8, 11, 31, 32, 33]))
    (.ops false [
      ⟨some 41, .fld 0 (.t 8), none⟩,
      ⟨some 42, .load 1 false (.t 41) [], none⟩,
      ⟨some 43, .fld 0 (.t 11), none⟩,
      ⟨some 44, .load 1 false (.t 43) [], none⟩,
      ⟨some 45, .min (.t 42) (.t 44), none⟩,
      ⟨some 46, .fld 1 (.t 8), none⟩,
      ⟨some 47, .load 1 false (.t 46) [], none⟩,
      ⟨some 48, .fld 1 (.t 11), none⟩,
      ⟨some 49, .load 1 false (.t 48) [], none⟩,
      ⟨some 50, .max (.t 47) (.t 49), none⟩,
      ⟨some 51, .build [.int 0, .int 0] [(0, 1, .t 45), (1, 1, .t 50)], none⟩,
      ⟨none, .store 2 (.t 8) (.t 51) (some 8), none⟩] (some [1, 2, 4, 8, 31, 32, 33])))))
   (.ops false [
     ⟨some 52, .bin .add (.t 33) (.k (.int 1)), none⟩,
     ⟨some 33, .mov (.t 52), none⟩] (some [1, 2, 4, 8, 31, 32, 33]))))))))
 (.seq
 (.ops false [
   ⟨some 53, .load 2 true (.t 8) [], none⟩,
   ⟨none, .store 2 (.t 4) (.t 53) (some 4), none⟩,
   ⟨some 5, .mov (.k (.int 0)), none⟩] (some [4, 5]))
 .ret))))))

theorem m25 : fmatch Try.prog Try.f25 2 [.cell 4 36, .tmp 5] v25 = true := by kernel_rfl

/-- steening/fines.Alone -/
def v27 : VC :=
 (.seq
 (.ops false [
   ⟨some 2, .box 2 6 (.t 0), none⟩,
   ⟨some 4, .nils 4 1, none⟩,
   ⟨some 5, .mov (.k (.int 0)), none⟩] (some [1, 2]))
 (.seq
 (.seq
 (.ops true [
   ⟨some 17, .load 6 true (.t 2) [], none⟩,
   ⟨some 18, .mov (.t 1), none⟩,
   ⟨some 19, .call 71 [.t 18, .k (.int 0), .k (.int 1)], none⟩,
   ⟨some 20, .call 70 [.t 17, .t 19], none⟩,
   ⟨some 6, .mov (.t 20), none⟩] (some [1, 2, 6]))
 (.seq
 (.ops false [
   ⟨some 21, .mov (.t 6), none⟩,
   ⟨some 22, .bin .neq (.t 21) (.k (.int 0)), none⟩] (some [1, 2, 6, 22]))
 (.cond (.t 22)
  (.seq
  (.ops false [
    ⟨some 23, .mov (.t 6), none⟩,
    ⟨some 4, .nils 501 1, none⟩,
    ⟨some 5, .mov (.t 23), none⟩] (some [4, 5]))
  .ret)
  .skip)))
 (.seq
 (.ops false [
   ⟨some 25, .load 6 true (.t 2) [], none⟩,
   ⟨some 26, .mov (.t 1), none⟩,
   ⟨some 27, .call 73 [.t 25, .t 26], none⟩,
   ⟨some 24, .mov (.t 27), none⟩,
   ⟨some 28, .ext (.t 24) 0, none⟩,
   ⟨some 29, .ext (.t 24) 1, none⟩,
   ⟨some 7, .mov (.t 28), none⟩,
   ⟨some 8, .mov (.t 29), none⟩] (some [2, 7, 8]))
 (.seq
 (.ops false [
   ⟨some 30, .mov (.t 7), none⟩,
   ⟨some 31, .len (.t 30), none⟩,
   ⟨some 32, .makes 32 1 8 false [.int 0] (.t 31), none⟩,
   ⟨some 9, .mov (.t 32), none⟩] (some [2, 8, 9]))
 (.seq
 (.seq
 (.ops false [
   ⟨some 33, .load 6 true (.t 2) [], none⟩,
   ⟨some 34, .call 64 [.t 33], none⟩,
   ⟨some 35, .len (.t 34), none⟩,
   ⟨some 36, .mov (.k (.int 0)), none⟩] (some [8, 9, 34, 35, 36]))
 (.block 0
  (.loop
   (.seq
   (.ops false [
     ⟨some 37, .bin .lss (.t 36) (.t 35), none⟩] (some [8, 9, 34, 35, 36, 37]))
   (.seq
   (.cond (.t 37)
    .skip
    (.exit 0))
   (.seq
   (.block 1
    (.seq
    (.ops false [
      ⟨some 38, .idx 1 (.t 34) (.t 36), none⟩,
      ⟨some 39, .load 1 false (.t 38) [], none⟩,
      ⟨some 11, .mov (.t 39), none⟩] (some [8, 9, 11, 34, 35, 36]))
    (.seq
    (.ops false [
      ⟨some 40, .mov (.t 11), none⟩,
      ⟨some 41, .len (.t 40), none⟩,
      ⟨some 42, .mov (.k (.int 0)), none⟩] (some [8, 9, 34, 35, 36, 40, 41, 42]))
    (.block 2
     (.loop
      (.seq
      (.ops false [
        ⟨some 43, .bin .lss (.t 42) (.t 41), none⟩] (some [8, 9, 34, 35, 36, 40, 41, 42, 43]))
      (.seq
      (.cond (.t 43)
       .skip
       (.exit 2))
      (.seq
      (.block 3
       (.seq
       (.ops false [
         ⟨some 44, .idx 2 (.t 40) (.t 42), none⟩,
         ⟨some 45, .load 2 true (.t 44) [], none⟩,
         ⟨some 13, .alloc 13 [.int 0, .int 0], none⟩,
         ⟨none, .store 2 (.t 13) (.t 45) (some 13), none⟩] (some [8, 9, 13, 34, 35, 36, 40, 41, 42]))
       (.ops false [
         ⟨some 46, .mov (.t 9), none⟩,
         ⟨some 47, .mov (.t 8), none⟩,
         ⟨some 48, .load 2 true (.t 13) [], none⟩,
         ⟨some 49, .callv (.t 47) [.t 48], none⟩,
         ⟨some 50, .idx 1 (.t 46) (.t 49), none⟩,
         ⟨some 51, .load 1 false (.t 50) [], none⟩,
         ⟨some 52, .bin .add (.t 51) (.k (.int 1)), none⟩,
         ⟨some 53, .idx 1 (.t 46) (.t 49), none⟩,
         ⟨none, .store 1 (.t 53) (.t 52) (some 32), none⟩] (some [8, 9, 34, 35, 36, 40, 41, 42]))))
      (.ops false [
        ⟨some 54, .bin .add (.t 42) (.k (.int 1)), none⟩,
        ⟨some 42, .mov (.t 54), none⟩] (some [8, 9, 34, 35, 36, 40, 41, 42]))))))))))
   (.ops false [
     ⟨some 55, .bin .add (.t 36) (.k (.int 1)), none⟩,
     ⟨some 36, .mov (.t 55), none⟩] (some [8, 9, 34, 35, 36]))))))))
 (.seq
 (.ops false [
   ⟨some 14, .nils 14 1, none⟩] (some [9, 14]))
 (.seq
 (.seq
 (.ops false [
   ⟨some 56, .mov (.t 9), none⟩,
   ⟨some 57, .len (.t 56), none⟩,
   ⟨some 58, .mov (.k (.int 0)), none⟩] (some [14, 56, 57, 58]))
 (.block 4
  (.loop
   (.seq
   (.ops false [
     ⟨some 59, .bin .lss (.t 58) (.t 57), none⟩] (some [14, 56, 57, 58, 59]))
   (.seq
   (.cond (.t 59)
    .skip
    (.exit 4))
   (.seq
   (.block 5
    (.seq
    (.ops false [
      ⟨some 60, .mov (.t 58), none⟩,
      ⟨some 61, .idx 1 (.t 56) (.t 58), none⟩,
      ⟨some 62, .load 1 false (.t 61) [], none⟩,
      ⟨some 15, .mov (.t 60), none⟩,
      ⟨some 16, .mov (.t 62), none⟩] (some [14, 15, 16, 56, 57, 58]))
    (.seq
    (.ops false [
      ⟨some 63, .mov (.t 16), none⟩,
      ⟨some 64, .bin .eql (.t 63) (.k (.int 0)), none⟩] (some [14, 15, 56, 57, 58, 64]))
    (.cond (.t 64)
     (.ops false [
       ⟨some 65, .mov (.t 14), none⟩,
       ⟨some 66, .mov (.t 15), none⟩,
       ⟨some 67, .bslice 1 [.t 66], none⟩,
       ⟨some 68, .app 14 1 8 (.t 65) (.t 67), none⟩,
       ⟨some 14, .mov (.t 68), none⟩] (some [14, 56, 57, 58]))
     .skip))))
   (.ops false [
     ⟨some 69, .bin .add (.t 58) (.k (.int 1)), none⟩,
     ⟨some 58, .mov (.t 69), none⟩] (some [14, 56, 57, 58]))))))))
 (.seq
 (.ops false [
   ⟨some 70, .mov (.t 14), none⟩,
   ⟨some 4, .mov (.t 70), none⟩,
   ⟨some 5, .mov (.k (.int 0)), none⟩] (some [4, 5]))
 .ret))))))))

theorem m27 : fmatch Try.prog Try.f27 2 [.tmp 4, .tmp 5] v27 = true := by kernel_rfl

/-- steening/fines.Fewest -/
def v28 : VC :=
 (.seq
 (.ops false [
   ⟨some 1, .box 1 6 (.t 0), none⟩,
   ⟨some 2, .mov (.k (.int 0)), none⟩,
   ⟨some 3, .mov (.k (.int 0)), none⟩] (some [1]))
 (.seq
 (.seq
 (.ops false [
   ⟨some 5, .load 6 true (.t 1) [], none⟩,
   ⟨some 6, .call 48 [.t 5], none⟩,
   ⟨some 4, .mov (.t 6), none⟩] (some [1, 4]))
 (.seq
 (.ops false [
   ⟨some 7, .mov (.t 4), none⟩,
   ⟨some 8, .bin .neq (.t 7) (.k (.int 0)), none⟩] (some [1, 4, 8]))
 (.cond (.t 8)
  (.seq
  (.ops false [
    ⟨some 9, .mov (.t 4), none⟩,
    ⟨some 2, .mov (.k (.int 0)), none⟩,
    ⟨some 3, .mov (.t 9), none⟩] (some [2, 3]))
  .ret)
  .skip)))
 (.seq
 (.ops false [
   ⟨some 10, .load 6 true (.t 1) [], none⟩,
   ⟨some 11, .call 67 [.t 10], none⟩,
   ⟨some 2, .mov (.t 11), none⟩,
   ⟨some 3, .mov (.k (.int 0)), none⟩] (some [2, 3]))
 .ret)))

theorem m28 : fmatch Try.prog Try.f28 1 [.tmp 2, .tmp 3] v28 = true := by kernel_rfl

/-- steening/steeningref13.Fewest -/
def v29 : VC :=
 (.seq
 (.ops false [
   ⟨some 1, .box 1 6 (.t 0), none⟩,
   ⟨some 2, .mov (.k (.int 0)), none⟩,
   ⟨some 3, .mov (.k (.int 0)), none⟩] (some [1]))
 (.seq
 (.seq
 (.ops false [
   ⟨some 5, .load 6 true (.t 1) [], none⟩,
   ⟨some 6, .call 49 [.t 5], none⟩,
   ⟨some 4, .mov (.t 6), none⟩] (some [1, 4]))
 (.seq
 (.ops false [
   ⟨some 7, .mov (.t 4), none⟩,
   ⟨some 8, .bin .neq (.t 7) (.k (.int 0)), none⟩] (some [1, 4, 8]))
 (.cond (.t 8)
  (.seq
  (.ops false [
    ⟨some 9, .mov (.t 4), none⟩,
    ⟨some 2, .mov (.k (.int 0)), none⟩,
    ⟨some 3, .mov (.t 9), none⟩] (some [2, 3]))
  .ret)
  .skip)))
 (.seq
 (.ops true [
   ⟨some 10, .fld 4 (.t 1), none⟩,
   ⟨some 11, .load 1 false (.t 10) [], none⟩,
   ⟨some 12, .len (.t 11), none⟩,
   ⟨some 13, .fld 5 (.t 1), none⟩,
   ⟨some 14, .load 1 false (.t 13) [], none⟩,
   ⟨some 15, .len (.t 14), none⟩,
   ⟨some 16, .bin .add (.t 12) (.t 15), none⟩,
   ⟨some 17, .load 6 true (.t 1) [], none⟩,
   ⟨some 18, .call 66 [.t 17], none⟩,
   ⟨some 19, .idx 1 (.t 18) (.k (.int 0)), none⟩,
   ⟨some 20, .load 1 false (.t 19) [], none⟩,
   ⟨some 21, .len (.t 20), none⟩,
   ⟨some 22, .bin .sub (.t 16) (.t 21), none⟩,
   ⟨some 2, .mov (.t 22), none⟩,
   ⟨some 3, .mov (.k (.int 0)), none⟩] (some [2, 3]))
 .ret)))

theorem m29 : fmatch Try.prog Try.f29 1 [.tmp 2, .tmp 3] v29 = true := by kernel_rfl

/-- steening/steeningref13.Owed -/
def v30 : VC :=
 (.seq
 (.ops false [
   ⟨some 2, .box 2 6 (.t 0), none⟩,
   ⟨some 4, .alloc 4 [.int 0, .int 0], none⟩,
   ⟨some 5, .mov (.k (.int 0)), none⟩] (some [1, 2, 4]))
 (.seq
 (.seq
 (.ops true [
   ⟨some 11, .load 6 true (.t 2) [], none⟩,
   ⟨some 12, .load 6 true (.t 2) [], none⟩,
   ⟨some 13, .mov (.t 1), none⟩,
   ⟨some 14, .call 75 [.t 12, .t 13], none⟩,
   ⟨some 15, .call 74 [.t 11, .t 14], none⟩,
   ⟨some 6, .mov (.t 15), none⟩] (some [1, 2, 4, 6]))
 (.seq
 (.ops false [
   ⟨some 16, .mov (.t 6), none⟩,
   ⟨some 17, .bin .neq (.t 16) (.k (.int 0)), none⟩] (some [1, 2, 4, 6, 17]))
 (.cond (.t 17)
  (.seq
  (.ops false [
    ⟨some 18, .build [.int 0, .int 0] [], none⟩,
    ⟨some 19, .mov (.t 6), none⟩,
    ⟨none, .store 2 (.t 4) (.t 18) (some 4), none⟩,
    ⟨some 5, .mov (.t 19), none⟩] (some [4, 5]))
  .ret)
  .skip)))
 (.seq
 (.ops false [
   ⟨some 20, .load 6 true (.t 2) [], none⟩,
   ⟨some 21, .call 66 [.t 20], none⟩,
   ⟨some 7, .mov (.t 21), none⟩] (some [1, 2, 4, 7]))
 (.seq
 (.ops true [
   ⟨some 22, .load 6 true (.t 2) [8], none⟩,
   ⟨some 23, .mov (.t 7), none⟩,
   ⟨some 24, .idx 1 (.t 23) (.k (.int 0)), none⟩,
   ⟨some 25, .load 1 false (.t 24) [8], none⟩,
   ⟨some 26, .mov (.t 1), none⟩,
   ⟨some 27, .call 57 [.t 22, .t 25, .t 26], none⟩,
   ⟨some 8, .alloc 8 [.int 0, .int 0], none⟩,
   ⟨none, .store 2 (.t 8) (.t 27) (some 8), none⟩] (some [1, 2, 4, 7, 8]))
 (.seq
 (.seq
 (.ops false [
   ⟨some 9, .mov (.k (.int 0)), none⟩] (some [1, 2, 4, 7, 8, 9]))
 (.block 0
  (.loop
   (.seq
   (.seq
   (.ops false [
     ⟨some 28, .mov (.t 9), none⟩,
     ⟨some 29, .mov (.t 7), none⟩,
     ⟨some 30, .len (.t 29), none⟩,
     ⟨some 31, .bin .lss (.t 28) (.t 30), none⟩] (some [1, 2, 4, 7, 8, 9, 31]))
   (.cond (.t 31)
    .skip
    (.exit 0)))
   (.seq
   (.block 1
    (.seq
    (.ops true [
      ⟨some 34, .load 6 true (.t 2) [10], none⟩,
      ⟨some 35, .mov (.t 7), none⟩,
      ⟨some 36, .mov (.t 9), none⟩,
      ⟨some 37, .idx 1 (.t 35) (.t 36), none⟩,
      ⟨some 38, .load 1 false (.t 37) [10], none⟩,
      ⟨some 39, .mov (.t 1), none⟩,
      ⟨some 40, .call 57 [.t 34, .t 38, .t 39], none⟩,
      ⟨some 10, .alloc 10 [.int 0, .int 0], none⟩,
      ⟨none, .store 2 (.t 10) (.t 40) (some 10), none⟩] (some [1, 2, 4, 7, 8, 9, 10]))
    (.ops false [
      ⟨some 41, .fld 0 (.t 8), none⟩,
      ⟨some 42, .load 1 false (.t 41) [], none⟩,
      ⟨some 43, .fld 0 (.t 10), none⟩,
      ⟨some 44, .load 1 false (.t 43) [], none⟩,
      ⟨some 45, .min (.t 42) (.t 44), none⟩,
      ⟨some 46, .fld 1 (.t 8), none⟩,
      ⟨some 47, .load 1 false (.t 46) [], none⟩,
      ⟨some 48, .fld 1 (.t 10), none⟩,
      ⟨some 49, .load 1 false (.t 48) [], none⟩,
      ⟨some 50, .max (.t 47) (.t 49), none⟩,
      ⟨some 51, .build [.int 0, .int 0] [(0, 1, .t 45), (1, 1, .t 50)], none⟩,
      ⟨none, .store 2 (.t 8) (.t 51) (some 8), none⟩] (some [1, 2, 4, 7, 8, 9]))))
   (.ops false [
     ⟨some 32, .mov (.t 9), none⟩,
     ⟨some 33, .bin .add (.t 32) (.k (.int 1)), none⟩,
     ⟨some 9, .mov (.t 33), none⟩] (some [1, 2, 4, 7, 8, 9])))))))
 (.seq
 (.ops false [
   ⟨some 52, .load 2 true (.t 8) [], none⟩,
   ⟨none, .store 2 (.t 4) (.t 52) (some 4), none⟩,
   ⟨some 5, .mov (.k (.int 0)), none⟩] (some [4, 5]))
 .ret))))))

theorem m30 : fmatch Try.prog Try.f30 2 [.cell 4 36, .tmp 5] v30 = true := by kernel_rfl

/-- steening/fines.Match -/
def v31 : VC :=
 (.seq
 (.ops false [
   ⟨some 1, .box 1 6 (.t 0), none⟩,
   ⟨some 2, .nils 2 2, none⟩,
   ⟨some 3, .mov (.k (.int 0)), none⟩] (some [1]))
 (.seq
 (.seq
 (.ops false [
   ⟨some 5, .load 6 true (.t 1) [], none⟩,
   ⟨some 6, .call 48 [.t 5], none⟩,
   ⟨some 4, .mov (.t 6), none⟩] (some [1, 4]))
 (.seq
 (.ops false [
   ⟨some 7, .mov (.t 4), none⟩,
   ⟨some 8, .bin .neq (.t 7) (.k (.int 0)), none⟩] (some [1, 4, 8]))
 (.cond (.t 8)
  (.seq
  (.ops false [
    ⟨some 9, .mov (.t 4), none⟩,
    ⟨some 2, .nils 501 2, none⟩,
    ⟨some 3, .mov (.t 9), none⟩] (some [2, 3]))
  .ret)
  .skip)))
 (.seq
 (.ops false [
   ⟨some 10, .load 6 true (.t 1) [], none⟩,
   ⟨some 11, .call 64 [.t 10], none⟩,
   ⟨some 12, .idx 1 (.t 11) (.k (.int 0)), none⟩,
   ⟨some 13, .load 1 false (.t 12) [], none⟩,
   ⟨some 2, .mov (.t 13), none⟩,
   ⟨some 3, .mov (.k (.int 0)), none⟩] (some [2, 3]))
 .ret)))

theorem m31 : fmatch Try.prog Try.f31 1 [.tmp 2, .tmp 3] v31 = true := by kernel_rfl

/-- steening/steeningref13.IsMatching -/
def v32 : VC :=
 (.seq
 (.ops false [
   ⟨some 2, .box 2 6 (.t 0), none⟩,
   ⟨some 4, .mov (.k (.bool false)), none⟩] (some [1, 2]))
 (.seq
 (.seq
 (.ops false [
   ⟨some 5, .mov (.k (.int 0)), none⟩] (some [1, 2, 5]))
 (.block 0
  (.loop
   (.seq
   (.seq
   (.ops false [
     ⟨some 7, .mov (.t 5), none⟩,
     ⟨some 8, .mov (.t 1), none⟩,
     ⟨some 9, .len (.t 8), none⟩,
     ⟨some 10, .bin .lss (.t 7) (.t 9), none⟩] (some [1, 2, 5, 10]))
   (.cond (.t 10)
    .skip
    (.exit 0)))
   (.seq
   (.block 1
    (.seq
    (.seq
    (.ops true [
      ⟨some 13, .load 6 true (.t 2) [], none⟩,
      ⟨some 14, .mov (.t 1), none⟩,
      ⟨some 15, .mov (.t 5), none⟩,
      ⟨some 16, .idx 2 (.t 14) (.t 15), none⟩,
      ⟨some 17, .fld 0 (.t 16), none⟩,
      ⟨some 18, .load 1 false (.t 17) [], none⟩,
      ⟨some 19, .call 35 [.t 13, .t 18], none⟩,
      ⟨some 20, .not (.t 19), none⟩,
      ⟨some 21, .mov (.t 20), none⟩,
      ⟨some 22, .load 6 true (.t 2) [], some (21, false)⟩,
      ⟨some 23, .mov (.t 1), some (21, false)⟩,
      ⟨some 24, .mov (.t 5), some (21, false)⟩,
      ⟨some 25, .idx 2 (.t 23) (.t 24), some (21, false)⟩,
      ⟨some 26, .fld 1 (.t 25), some (21, false)⟩,
      ⟨some 27, .load 1 false (.t 26) [], some (21, false)⟩,
      ⟨some 28, .call 36 [.t 22, .t 27], some (21, false)⟩,
      ⟨some 29, .not (.t 28), some (21, false)⟩,
      ⟨some 30, .pick (.t 21) (.k (.bool true)) (.t 29), none⟩,
      ⟨some 31, .mov (.t 30), none⟩,
      ⟨some 32, .load 6 true (.t 2) [], some (31, false)⟩,
      ⟨some 33, .fld 4 (.t 2), some (31, false)⟩,
      ⟨some 34, .load 1 false (.t 33) [], some (31, false)⟩,
      ⟨some 35, .mov (.t 1), some (31, false)⟩,
      ⟨some 36, .mov (.t 5), some (31, false)⟩,
      ⟨some 37, .idx 2 (.t 35) (.t 36), some (31, false)⟩,
      ⟨some 38, .fld 0 (.t 37), some (31, false)⟩,
      ⟨some 39, .load 1 false (.t 38) [], some (31, false)⟩,
      ⟨some 40, .idx 3 (.t 34) (.t 39), some (31, false)⟩,
      ⟨some 41, .load 3 true (.t 40) [], some (31, false)⟩,
      ⟨some 42, .fld 5 (.t 2), some (31, false)⟩,
      ⟨some 43, .load 1 false (.t 42) [], some (31, false)⟩,
      ⟨some 44, .mov (.t 1), some (31, false)⟩,
      ⟨some 45, .mov (.t 5), some (31, false)⟩,
      ⟨some 46, .idx 2 (.t 44) (.t 45), some (31, false)⟩,
      ⟨some 47, .fld 1 (.t 46), some (31, false)⟩,
      ⟨some 48, .load 1 false (.t 47) [], some (31, false)⟩,
      ⟨some 49, .idx 3 (.t 43) (.t 48), some (31, false)⟩,
      ⟨some 50, .load 3 true (.t 49) [], some (31, false)⟩,
      ⟨some 51, .call 76 [.t 32, .t 41, .t 50], some (31, false)⟩,
      ⟨some 52, .not (.t 51), some (31, false)⟩,
      ⟨some 53, .pick (.t 31) (.k (.bool true)) (.t 52), none⟩,
      ⟨some 54, .mov (.t 53), none⟩,
      ⟨some 55, .mov (.t 5), some (54, false)⟩,
      ⟨some 56, .bin .gtr (.t 55) (.k (.int 0)), some (54, false)⟩,
      ⟨some 57, .mov (.t 56), some (54, false)⟩,
      ⟨some 58, .mov (.t 1), some (57, true)⟩,
      ⟨some 59, .mov (.t 5), some (57, true)⟩,
      ⟨some 60, .idx 2 (.t 58) (.t 59), some (57, true)⟩,
      ⟨some 61, .fld 0 (.t 60), some (57, true)⟩,
      ⟨some 62, .load 1 false (.t 61) [], some (57, true)⟩,
      ⟨some 63, .mov (.t 1), some (57, true)⟩,
      ⟨some 64, .mov (.t 5), some (57, true)⟩,
      ⟨some 65, .bin .sub (.t 64) (.k (.int 1)), some (57, true)⟩,
      ⟨some 66, .idx 2 (.t 63) (.t 65), some (57, true)⟩,
      ⟨some 67, .fld 0 (.t 66), some (57, true)⟩,
      ⟨some 68, .load 1 false (.t 67) [], some (57, true)⟩,
      ⟨some 69, .bin .leq (.t 62) (.t 68), some (57, true)⟩,
      ⟨some 70, .pick (.t 57) (.t 69) (.k (.bool false)), some (54, false)⟩,
      ⟨some 71, .pick (.t 54) (.k (.bool true)) (.t 70), none⟩] (some [1, 2, 5, 71]))
    (.cond (.t 71)
     (.seq
     (.ops false [
       ⟨some 4, .mov (.k (.bool false)), none⟩] (some [4]))
     .ret)
     .skip))
    (.seq
    (.ops false [
      ⟨some 6, .mov (.k (.int 0)), none⟩] (some [1, 2, 5, 6]))
    (.block 2
     (.loop
      (.seq
      (.seq
      (.ops false [
        ⟨some 72, .mov (.t 6), none⟩,
        ⟨some 73, .mov (.t 5), none⟩,
        ⟨some 74, .bin .lss (.t 72) (.t 73), none⟩] (some [1, 2, 5, 6, 74]))
      (.cond (.t 74)
       .skip
       (.exit 2)))
      (.seq
      (.block 3
       (.seq
       (.ops true [
         ⟨some 77, .mov (.t 1), none⟩,
         ⟨some 78, .mov (.t 6), none⟩,
         ⟨some 79, .idx 2 (.t 77) (.t 78), none⟩,
         ⟨some 80, .fld 1 (.t 79), none⟩,
         ⟨some 81, .load 1 false (.t 80) [], none⟩,
         ⟨some 82, .mov (.t 1), none⟩,
         ⟨some 83, .mov (.t 5), none⟩,
         ⟨some 84, .idx 2 (.t 82) (.t 83), none⟩,
         ⟨some 85, .fld 1 (.t 84), none⟩,
         ⟨some 86, .load 1 false (.t 85) [], none⟩,
         ⟨some 87, .bin .eql (.t 81) (.t 86), none⟩] (some [1, 2, 5, 6, 87]))
       (.cond (.t 87)
        (.seq
        (.ops false [
          ⟨some 4, .mov (.k (.bool false)), none⟩] (some [4]))
        .ret)
        .skip)))
      (.ops false [
        ⟨some 75, .mov (.t 6), none⟩,
        ⟨some 76, .bin .add (.t 75) (.k (.int 1)), none⟩,
        ⟨some 6, .mov (.t 76), none⟩] (some [1, 2, 5, 6])))))))))
   (.ops false [
     ⟨some 11, .mov (.t 5), none⟩,
     ⟨some 12, .bin .add (.t 11) (.k (.int 1)), none⟩,
     ⟨some 5, .mov (.t 12), none⟩] (some [1, 2, 5])))))))
 (.seq
 (.ops false [
   ⟨some 4, .mov (.k (.bool true)), none⟩] (some [4]))
 .ret)))

theorem m32 : fmatch Try.prog Try.f32 2 [.tmp 4] v32 = true := by kernel_rfl

/-- steening/steeningref01.Within -/
def v33 : VC :=
 (.seq
 (.ops false [
   ⟨some 6, .mov (.k (.bool false)), none⟩] (some [0, 1, 2]))
 (.seq
 (.ops false [
   ⟨some 7, .mov (.t 1), none⟩,
   ⟨some 8, .mov (.t 0), none⟩,
   ⟨some 9, .bin .leq (.t 7) (.t 8), none⟩,
   ⟨some 10, .mov (.t 9), none⟩,
   ⟨some 11, .mov (.t 0), some (10, true)⟩,
   ⟨some 12, .mov (.t 2), some (10, true)⟩,
   ⟨some 13, .bin .leq (.t 11) (.t 12), some (10, true)⟩,
   ⟨some 14, .pick (.t 10) (.t 13) (.k (.bool false)), none⟩,
   ⟨some 6, .mov (.t 14), none⟩] (some [6]))
 .ret))

theorem m33 : fmatch Try.prog Try.f33 3 [.tmp 6] v33 = true := by kernel_rfl

/-- steening/steeningref13.Later -/
def v34 : VC :=
 (.seq
 (.ops false [
   ⟨some 2, .box 2 6 (.t 0), none⟩,
   ⟨some 4, .alloc 4 [.int 0, .int 0, .int 0, .int 0, .sl 3 [] .full, .sl 3 [] .full], none⟩] (some [1, 2, 4]))
 (.seq
 (.ops false [
   ⟨some 6, .load 6 true (.t 2) [], none⟩,
   ⟨some 7, .call 16 [.t 6], none⟩,
   ⟨some 5, .alloc 5 [.int 0, .int 0, .int 0, .int 0, .sl 3 [] .full, .sl 3 [] .full], none⟩,
   ⟨none, .store 6 (.t 5) (.t 7) (some 5), none⟩] (some [1, 4, 5]))
 (.seq
 (.ops false [
   ⟨some 8, .mov (.t 1), none⟩,
   ⟨some 9, .fld 3 (.t 5), none⟩,
   ⟨none, .store 1 (.t 9) (.t 8) (some 5), none⟩] (some [4, 5]))
 (.seq
 (.ops false [
   ⟨some 10, .load 6 true (.t 5) [], none⟩,
   ⟨none, .store 6 (.t 4) (.t 10) (some 4), none⟩] (some [4]))
 .ret))))

theorem m34 : fmatch Try.prog Try.f34 2 [.cell 4 24] v34 = true := by kernel_rfl

/-- steening/steeningref13.IsOne -/
def v35 : VC :=
 (.seq
 (.ops false [
   ⟨some 2, .box 2 6 (.t 0), none⟩,
   ⟨some 4, .mov (.k (.bool false)), none⟩] (some [1, 2]))
 (.seq
 (.ops false [
   ⟨some 5, .mov (.t 1), none⟩,
   ⟨some 6, .fld 4 (.t 2), none⟩,
   ⟨some 7, .load 1 false (.t 6) [], none⟩,
   ⟨some 8, .len (.t 7), none⟩,
   ⟨some 9, .bin .sub (.t 8) (.k (.int 1)), none⟩,
   ⟨some 10, .call 77 [.t 5, .k (.int 0), .t 9], none⟩,
   ⟨some 4, .mov (.t 10), none⟩] (some [4]))
 .ret))

theorem m35 : fmatch Try.prog Try.f35 2 [.tmp 4] v35 = true := by kernel_rfl

/-- steening/steeningref13.IsOther -/
def v36 : VC :=
 (.seq
 (.ops false [
   ⟨some 2, .box 2 6 (.t 0), none⟩,
   ⟨some 4, .mov (.k (.bool false)), none⟩] (some [1, 2]))
 (.seq
 (.ops false [
   ⟨some 5, .mov (.t 1), none⟩,
   ⟨some 6, .fld 5 (.t 2), none⟩,
   ⟨some 7, .load 1 false (.t 6) [], none⟩,
   ⟨some 8, .len (.t 7), none⟩,
   ⟨some 9, .bin .sub (.t 8) (.k (.int 1)), none⟩,
   ⟨some 10, .call 77 [.t 5, .k (.int 0), .t 9], none⟩,
   ⟨some 4, .mov (.t 10), none⟩] (some [4]))
 .ret))

theorem m36 : fmatch Try.prog Try.f36 2 [.tmp 4] v36 = true := by kernel_rfl

/-- steening/fines.Same -/
def v37 : VC :=
 (.seq
 (.ops false [
   ⟨some 3, .box 3 6 (.t 0), none⟩,
   ⟨some 6, .mov (.k (.bool false)), none⟩,
   ⟨some 7, .mov (.k (.int 0)), none⟩] (some [1, 2, 3]))
 (.seq
 (.seq
 (.ops true [
   ⟨some 11, .load 6 true (.t 3) [], none⟩,
   ⟨some 12, .fld 4 (.t 3), none⟩,
   ⟨some 13, .load 1 false (.t 12) [], none⟩,
   ⟨some 14, .mov (.t 1), none⟩,
   ⟨some 15, .call 78 [.t 13, .t 14], none⟩,
   ⟨some 16, .mov (.t 15), none⟩,
   ⟨some 17, .fld 5 (.t 3), some (16, true)⟩,
   ⟨some 18, .load 1 false (.t 17) [], some (16, true)⟩,
   ⟨some 19, .mov (.t 2), some (16, true)⟩,
   ⟨some 20, .call 78 [.t 18, .t 19], some (16, true)⟩,
   ⟨some 21, .pick (.t 16) (.t 20) (.k (.bool false)), none⟩,
   ⟨some 22, .call 70 [.t 11, .t 21], none⟩,
   ⟨some 8, .mov (.t 22), none⟩] (some [1, 2, 3, 8]))
 (.seq
 (.ops false [
   ⟨some 23, .mov (.t 8), none⟩,
   ⟨some 24, .bin .neq (.t 23) (.k (.int 0)), none⟩] (some [1, 2, 3, 8, 24]))
 (.cond (.t 24)
  (.seq
  (.ops false [
    ⟨some 25, .mov (.t 8), none⟩,
    ⟨some 6, .mov (.k (.bool false)), none⟩,
    ⟨some 7, .mov (.t 25), none⟩] (some [6, 7]))
  .ret)
  .skip)))
 (.seq
 (.ops true [
   ⟨some 27, .fld 3 (.t 3), none⟩,
   ⟨some 28, .load 1 false (.t 27) [], none⟩,
   ⟨some 29, .fld 4 (.t 3), none⟩,
   ⟨some 30, .load 1 false (.t 29) [], none⟩,
   ⟨some 31, .mov (.t 1), none⟩,
   ⟨some 32, .idx 3 (.t 30) (.t 31), none⟩,
   ⟨some 33, .load 3 true (.t 32) [], none⟩,
   ⟨some 34, .fld 5 (.t 3), none⟩,
   ⟨some 35, .load 1 false (.t 34) [], none⟩,
   ⟨some 36, .mov (.t 2), none⟩,
   ⟨some 37, .idx 3 (.t 35) (.t 36), none⟩,
   ⟨some 38, .load 3 true (.t 37) [], none⟩,
   ⟨some 39, .call 79 [.t 28, .t 33, .t 38], none⟩,
   ⟨some 26, .mov (.t 39), none⟩,
   ⟨some 40, .ext (.t 26) 0, none⟩,
   ⟨some 41, .ext (.t 26) 1, none⟩,
   ⟨some 9, .mov (.t 40), none⟩,
   ⟨some 10, .mov (.t 41), none⟩] (some [10]))
 (.seq
 (.ops false [
   ⟨some 42, .mov (.t 10), none⟩,
   ⟨some 6, .mov (.t 42), none⟩,
   ⟨some 7, .mov (.k (.int 0)), none⟩] (some [6, 7]))
 .ret))))

theorem m37 : fmatch Try.prog Try.f37 3 [.tmp 6, .tmp 7] v37 = true := by kernel_rfl

/-- steening/steeningref13.IsBook -/
def v38 : VC :=
 (.seq
 (.ops false [
   ⟨some 2, .mov (.k (.bool false)), none⟩] (some [0]))
 (.seq
 (.ops false [
   ⟨some 3, .mov (.t 0), none⟩,
   ⟨some 4, .call 77 [.t 3, .k (.int 0), .k (.int 1)], none⟩,
   ⟨some 2, .mov (.t 4), none⟩] (some [2]))
 .ret))

theorem m38 : fmatch Try.prog Try.f38 1 [.tmp 2] v38 = true := by kernel_rfl

/-- steening/steeningref13.Entries -/
def v39 : VC :=
 (.seq
 (.ops false [
   ⟨some 2, .box 2 6 (.t 0), none⟩,
   ⟨some 4, .nils 4 3, none⟩] (some [1, 2]))
 (.seq
 (.seq
 (.ops false [
   ⟨some 5, .mov (.t 1), none⟩,
   ⟨some 6, .bin .eql (.t 5) (.k (.int 1)), none⟩] (some [2, 6]))
 (.cond (.t 6)
  (.seq
  (.ops false [
    ⟨some 7, .fld 5 (.t 2), none⟩,
    ⟨some 8, .load 1 false (.t 7) [], none⟩,
    ⟨some 4, .mov (.t 8), none⟩] (some [4]))
  .ret)
  .skip))
 (.seq
 (.ops false [
   ⟨some 9, .fld 4 (.t 2), none⟩,
   ⟨some 10, .load 1 false (.t 9) [], none⟩,
   ⟨some 4, .mov (.t 10), none⟩] (some [4]))
 .ret)))

theorem m39 : fmatch Try.prog Try.f39 2 [.tmp 4] v39 = true := by kernel_rfl

/-- steening/steeninglaw13.inside -/
def v40 : VC :=
 (.seq
 (.ops false [
   ⟨some 2, .box 2 2 (.t 0), none⟩,
   ⟨some 3, .box 3 2 (.t 1), none⟩,
   ⟨some 4, .mov (.k (.bool false)), none⟩] (some [2, 3]))
 (.seq
 (.ops false [
   ⟨some 5, .fld 0 (.t 3), none⟩,
   ⟨some 6, .load 1 false (.t 5) [], none⟩,
   ⟨some 7, .fld 0 (.t 2), none⟩,
   ⟨some 8, .load 1 false (.t 7) [], none⟩,
   ⟨some 9, .bin .leq (.t 6) (.t 8), none⟩,
   ⟨some 10, .mov (.t 9), none⟩,
   ⟨some 11, .fld 0 (.t 2), some (10, true)⟩,
   ⟨some 12, .load 1 false (.t 11) [], some (10, true)⟩,
   ⟨some 13, .fld 1 (.t 2), some (10, true)⟩,
   ⟨some 14, .load 1 false (.t 13) [], some (10, true)⟩,
   ⟨some 15, .bin .leq (.t 12) (.t 14), some (10, true)⟩,
   ⟨some 16, .pick (.t 10) (.t 15) (.k (.bool false)), none⟩,
   ⟨some 17, .mov (.t 16), none⟩,
   ⟨some 18, .fld 1 (.t 2), some (17, true)⟩,
   ⟨some 19, .load 1 false (.t 18) [], some (17, true)⟩,
   ⟨some 20, .fld 1 (.t 3), some (17, true)⟩,
   ⟨some 21, .load 1 false (.t 20) [], some (17, true)⟩,
   ⟨some 22, .bin .leq (.t 19) (.t 21), some (17, true)⟩,
   ⟨some 23, .pick (.t 17) (.t 22) (.k (.bool false)), none⟩,
   ⟨some 4, .mov (.t 23), none⟩] (some [4]))
 .ret))

theorem m40 : fmatch Try.prog Try.f40 2 [.tmp 4] v40 = true := by kernel_rfl

/-- steening/fines.Common -/
def v41 : VC :=
 (.seq
 (.ops false [
   ⟨some 3, .box 3 6 (.t 0), none⟩,
   ⟨some 6, .alloc 6 [.int 0, .int 0], none⟩,
   ⟨some 7, .mov (.k (.int 0)), none⟩] (some [1, 2, 3, 6]))
 (.seq
 (.seq
 (.ops true [
   ⟨some 11, .load 6 true (.t 3) [], none⟩,
   ⟨some 12, .fld 4 (.t 3), none⟩,
   ⟨some 13, .load 1 false (.t 12) [], none⟩,
   ⟨some 14, .mov (.t 1), none⟩,
   ⟨some 15, .call 78 [.t 13, .t 14], none⟩,
   ⟨some 16, .mov (.t 15), none⟩,
   ⟨some 17, .fld 5 (.t 3), some (16, true)⟩,
   ⟨some 18, .load 1 false (.t 17) [], some (16, true)⟩,
   ⟨some 19, .mov (.t 2), some (16, true)⟩,
   ⟨some 20, .call 78 [.t 18, .t 19], some (16, true)⟩,
   ⟨some 21, .pick (.t 16) (.t 20) (.k (.bool false)), none⟩,
   ⟨some 22, .call 70 [.t 11, .t 21], none⟩,
   ⟨some 8, .mov (.t 22), none⟩] (some [1, 2, 3, 6, 8]))
 (.seq
 (.ops false [
   ⟨some 23, .mov (.t 8), none⟩,
   ⟨some 24, .bin .neq (.t 23) (.k (.int 0)), none⟩] (some [1, 2, 3, 6, 8, 24]))
 (.cond (.t 24)
  (.seq
  (.ops false [
    ⟨some 25, .build [.int 0, .int 0] [], none⟩,
    ⟨some 26, .mov (.t 8), none⟩,
    ⟨none, .store 2 (.t 6) (.t 25) (some 6), none⟩,
    ⟨some 7, .mov (.t 26), none⟩] (some [6, 7]))
  .ret)
  .skip)))
 (.seq
 (.ops true [
   ⟨some 28, .fld 3 (.t 3), none⟩,
   ⟨some 29, .load 1 false (.t 28) [], none⟩,
   ⟨some 30, .fld 4 (.t 3), none⟩,
   ⟨some 31, .load 1 false (.t 30) [], none⟩,
   ⟨some 32, .mov (.t 1), none⟩,
   ⟨some 33, .idx 3 (.t 31) (.t 32), none⟩,
   ⟨some 34, .load 3 true (.t 33) [], none⟩,
   ⟨some 35, .fld 5 (.t 3), none⟩,
   ⟨some 36, .load 1 false (.t 35) [], none⟩,
   ⟨some 37, .mov (.t 2), none⟩,
   ⟨some 38, .idx 3 (.t 36) (.t 37), none⟩,
   ⟨some 39, .load 3 true (.t 38) [], none⟩,
   ⟨some 40, .call 79 [.t 29, .t 34, .t 39], none⟩,
   ⟨some 27, .mov (.t 40), none⟩,
   ⟨some 41, .ext (.t 27) 0, none⟩,
   ⟨some 42, .ext (.t 27) 1, none⟩,
   ⟨some 9, .mov (.t 41), none⟩,
   ⟨some 10, .mov (.t 42), none⟩] (some [3, 6, 9, 10]))
 (.seq
 (.seq
 (.ops false [
   ⟨some 43, .mov (.t 10), none⟩,
   ⟨some 44, .not (.t 43), none⟩] (some [3, 6, 9, 44]))
 (.cond (.t 44)
  (.seq
  (.ops false [
    ⟨some 45, .build [.int 0, .int 0] [], none⟩,
    ⟨none, .store 2 (.t 6) (.t 45) (some 6), none⟩,
    ⟨some 7, .mov (.k (.int 3)), none⟩] (some [6, 7]))
  .ret)
  .skip))
 (.seq
 (.ops false [
   ⟨some 46, .load 6 true (.t 3) [], none⟩,
   ⟨some 47, .mov (.t 9), none⟩,
   ⟨some 48, .call 80 [.t 46, .t 47], none⟩,
   ⟨none, .store 2 (.t 6) (.t 48) (some 6), none⟩,
   ⟨some 7, .mov (.k (.int 0)), none⟩] (some [6, 7]))
 .ret)))))

theorem m41 : fmatch Try.prog Try.f41 3 [.cell 6 36, .tmp 7] v41 = true := by kernel_rfl

/-- steening/steeningref13.InOne -/
def v44 : VC :=
 (.seq
 (.ops false [
   ⟨some 4, .mov (.k (.bool false)), none⟩] (some [0, 1]))
 (.seq
 (.seq
 (.ops false [
   ⟨some 5, .mov (.k (.int 0)), none⟩] (some [0, 1, 5]))
 (.block 0
  (.loop
   (.seq
   (.seq
   (.ops false [
     ⟨some 6, .mov (.t 5), none⟩,
     ⟨some 7, .mov (.t 0), none⟩,
     ⟨some 8, .len (.t 7), none⟩,
     ⟨some 9, .bin .lss (.t 6) (.t 8), none⟩] (some [0, 1, 5, 9]))
   (.cond (.t 9)
    .skip
    (.exit 0)))
   (.seq
   (.block 1
    (.seq
    (.ops false [
      ⟨some 12, .mov (.t 0), none⟩,
      ⟨some 13, .mov (.t 5), none⟩,
      ⟨some 14, .idx 2 (.t 12) (.t 13), none⟩,
      ⟨some 15, .fld 0 (.t 14), none⟩,
      ⟨some 16, .load 1 false (.t 15) [], none⟩,
      ⟨some 17, .mov (.t 1), none⟩,
      ⟨some 18, .bin .eql (.t 16) (.t 17), none⟩] (some [0, 1, 5, 18]))
    (.cond (.t 18)
     (.seq
     (.ops false [
       ⟨some 4, .mov (.k (.bool true)), none⟩] (some [4]))
     .ret)
     .skip)))
   (.ops false [
     ⟨some 10, .mov (.t 5), none⟩,
     ⟨some 11, .bin .add (.t 10) (.k (.int 1)), none⟩,
     ⟨some 5, .mov (.t 11), none⟩] (some [0, 1, 5])))))))
 (.seq
 (.ops false [
   ⟨some 4, .mov (.k (.bool false)), none⟩] (some [4]))
 .ret)))

theorem m44 : fmatch Try.prog Try.f44 2 [.tmp 4] v44 = true := by kernel_rfl

/-- steening/steeningref13.InOther -/
def v45 : VC :=
 (.seq
 (.ops false [
   ⟨some 4, .mov (.k (.bool false)), none⟩] (some [0, 1]))
 (.seq
 (.seq
 (.ops false [
   ⟨some 5, .mov (.k (.int 0)), none⟩] (some [0, 1, 5]))
 (.block 0
  (.loop
   (.seq
   (.seq
   (.ops false [
     ⟨some 6, .mov (.t 5), none⟩,
     ⟨some 7, .mov (.t 0), none⟩,
     ⟨some 8, .len (.t 7), none⟩,
     ⟨some 9, .bin .lss (.t 6) (.t 8), none⟩] (some [0, 1, 5, 9]))
   (.cond (.t 9)
    .skip
    (.exit 0)))
   (.seq
   (.block 1
    (.seq
    (.ops false [
      ⟨some 12, .mov (.t 0), none⟩,
      ⟨some 13, .mov (.t 5), none⟩,
      ⟨some 14, .idx 2 (.t 12) (.t 13), none⟩,
      ⟨some 15, .fld 1 (.t 14), none⟩,
      ⟨some 16, .load 1 false (.t 15) [], none⟩,
      ⟨some 17, .mov (.t 1), none⟩,
      ⟨some 18, .bin .eql (.t 16) (.t 17), none⟩] (some [0, 1, 5, 18]))
    (.cond (.t 18)
     (.seq
     (.ops false [
       ⟨some 4, .mov (.k (.bool true)), none⟩] (some [4]))
     .ret)
     .skip)))
   (.ops false [
     ⟨some 10, .mov (.t 5), none⟩,
     ⟨some 11, .bin .add (.t 10) (.k (.int 1)), none⟩,
     ⟨some 5, .mov (.t 11), none⟩] (some [0, 1, 5])))))))
 (.seq
 (.ops false [
   ⟨some 4, .mov (.k (.bool false)), none⟩] (some [4]))
 .ret)))

theorem m45 : fmatch Try.prog Try.f45 2 [.tmp 4] v45 = true := by kernel_rfl

/-- steening/steeninglaw13.huge -/
def v47 : VC :=
 (.seq
 (.ops false [
   ⟨some 2, .mov (.k (.bool false)), none⟩] (some [0]))
 (.seq
 (.seq
 (.ops false [
   ⟨some 4, .mov (.t 0), none⟩,
   ⟨some 5, .len (.t 4), none⟩,
   ⟨some 6, .bin .gtr (.t 5) (.k (.int 40)), none⟩] (some [0, 6]))
 (.cond (.t 6)
  (.seq
  (.ops false [
    ⟨some 2, .mov (.k (.bool true)), none⟩] (some [2]))
  .ret)
  .skip))
 (.seq
 (.seq
 (.ops false [
   ⟨some 3, .mov (.k (.int 0)), none⟩] (some [0, 3]))
 (.block 0
  (.loop
   (.seq
   (.seq
   (.ops false [
     ⟨some 7, .mov (.t 3), none⟩,
     ⟨some 8, .mov (.t 0), none⟩,
     ⟨some 9, .len (.t 8), none⟩,
     ⟨some 10, .bin .lss (.t 7) (.t 9), none⟩] (some [0, 3, 10]))
   (.cond (.t 10)
    .skip
    (.exit 0)))
   (.seq
   (.block 1
    (.seq
    (.ops false [
      ⟨some 13, .mov (.t 0), none⟩,
      ⟨some 14, .mov (.t 3), none⟩,
      ⟨some 15, .idx 3 (.t 13) (.t 14), none⟩,
      ⟨some 16, .fld 2 (.t 15), none⟩,
      ⟨some 17, .load 1 false (.t 16) [], none⟩,
      ⟨some 18, .len (.t 17), none⟩,
      ⟨some 19, .bin .gtr (.t 18) (.k (.int 40)), none⟩] (some [0, 3, 19]))
    (.cond (.t 19)
     (.seq
     (.ops false [
       ⟨some 2, .mov (.k (.bool true)), none⟩] (some [2]))
     .ret)
     .skip)))
   (.ops false [
     ⟨some 11, .mov (.t 3), none⟩,
     ⟨some 12, .bin .add (.t 11) (.k (.int 1)), none⟩,
     ⟨some 3, .mov (.t 12), none⟩] (some [0, 3])))))))
 (.seq
 (.ops false [
   ⟨some 2, .mov (.k (.bool false)), none⟩] (some [2]))
 .ret))))

theorem m47 : fmatch Try.prog Try.f47 1 [.tmp 2] v47 = true := by kernel_rfl

/-- steening/fines.Check -/
def v48 : VC :=
 (.seq
 (.ops false [
   ⟨some 1, .box 1 6 (.t 0), none⟩,
   ⟨some 2, .mov (.k (.int 0)), none⟩] (some [1]))
 (.seq
 (.seq
 (.ops false [
   ⟨some 5, .load 6 true (.t 1) [], none⟩,
   ⟨some 6, .call 82 [.t 5, .k (.sl 1 [] .full)], none⟩,
   ⟨some 7, .call 81 [.t 6], none⟩,
   ⟨some 8, .bin .neq (.t 7) (.k (.int 0)), none⟩,
   ⟨some 9, .mov (.t 8), none⟩,
   ⟨some 10, .fld 2 (.t 1), some (9, false)⟩,
   ⟨some 11, .load 1 false (.t 10) [], some (9, false)⟩,
   ⟨some 12, .call 71 [.t 11, .k (.int 0), .k (.int 4)], some (9, false)⟩,
   ⟨some 13, .not (.t 12), some (9, false)⟩,
   ⟨some 14, .pick (.t 9) (.k (.bool true)) (.t 13), none⟩,
   ⟨some 15, .mov (.t 14), none⟩,
   ⟨some 16, .fld 3 (.t 1), some (15, false)⟩,
   ⟨some 17, .load 1 false (.t 16) [], some (15, false)⟩,
   ⟨some 18, .call 71 [.t 17, .k (.int 0), .k (.int 30)], some (15, false)⟩,
   ⟨some 19, .not (.t 18), some (15, false)⟩,
   ⟨some 20, .pick (.t 15) (.k (.bool true)) (.t 19), none⟩] (some [1, 20]))
 (.cond (.t 20)
  (.seq
  (.ops false [
    ⟨some 2, .mov (.k (.int 130)), none⟩] (some [2]))
  .ret)
  .skip))
 (.seq
 (.seq
 (.ops false [
   ⟨some 21, .fld 4 (.t 1), none⟩,
   ⟨some 22, .load 1 false (.t 21) [], none⟩,
   ⟨some 23, .fld 5 (.t 1), none⟩,
   ⟨some 24, .load 1 false (.t 23) [], none⟩,
   ⟨some 25, .build [.sl 3 [] .sh, .sl 3 [] .sh] [(0, 1, .t 22), (1, 1, .t 24)], none⟩,
   ⟨some 26, .mov (.k (.int 0)), none⟩] (some [1, 25, 26]))
 (.block 0
  (.loop
   (.seq
   (.ops false [
     ⟨some 27, .bin .lss (.t 26) (.k (.int 2)), none⟩] (some [1, 25, 26, 27]))
   (.seq
   (.cond (.t 27)
    .skip
    (.exit 0))
   (.seq
   (.block 1
    (.seq
    (.ops false [
      ⟨some 28, .indexV 2 1 false (.t 25) (.t 26), none⟩,
      ⟨some 4, .mov (.t 28), none⟩] (some [1, 4, 25, 26]))
    (.seq
    (.ops false [
      ⟨some 29, .mov (.t 4), none⟩,
      ⟨some 30, .len (.t 29), none⟩,
      ⟨some 31, .bin .gtr (.t 30) (.k (.int 5)), none⟩,
      ⟨some 32, .mov (.t 31), none⟩,
      ⟨some 33, .mov (.t 4), some (32, false)⟩,
      ⟨some 34, .mkf 84 [.t 1], some (32, false)⟩,
      ⟨some 35, .call 83 [.t 33, .t 34], some (32, false)⟩,
      ⟨some 36, .pick (.t 32) (.k (.bool true)) (.t 35), none⟩] (some [1, 25, 26, 36]))
    (.cond (.t 36)
     (.seq
     (.ops false [
       ⟨some 2, .mov (.k (.int 130)), none⟩] (some [2]))
     .ret)
     .skip))))
   (.ops false [
     ⟨some 37, .bin .add (.t 26) (.k (.int 1)), none⟩,
     ⟨some 26, .mov (.t 37), none⟩] (some [1, 25, 26]))))))))
 (.seq
 (.ops false [
   ⟨some 2, .mov (.k (.int 0)), none⟩] (some [2]))
 .ret))))

theorem m48 : fmatch Try.prog Try.f48 1 [.tmp 2] v48 = true := by kernel_rfl

/-- steening/steeningref13.Check -/
def v49 : VC :=
 (.seq
 (.ops false [
   ⟨some 1, .box 1 6 (.t 0), none⟩,
   ⟨some 2, .mov (.k (.int 0)), none⟩] (some [1]))
 (.seq
 (.seq
 (.ops false [
   ⟨some 3, .fld 0 (.t 1), none⟩,
   ⟨some 4, .load 1 false (.t 3) [], none⟩,
   ⟨some 5, .call 77 [.t 4, .k (.int 2), .k (.int 10)], none⟩,
   ⟨some 6, .not (.t 5), none⟩,
   ⟨some 7, .mov (.t 6), none⟩,
   ⟨some 8, .fld 1 (.t 1), some (7, false)⟩,
   ⟨some 9, .load 1 false (.t 8) [], some (7, false)⟩,
   ⟨some 10, .call 77 [.t 9, .k (.int 1), .k (.int 4)], some (7, false)⟩,
   ⟨some 11, .not (.t 10), some (7, false)⟩,
   ⟨some 12, .pick (.t 7) (.k (.bool true)) (.t 11), none⟩,
   ⟨some 13, .mov (.t 12), none⟩,
   ⟨some 14, .fld 2 (.t 1), some (13, false)⟩,
   ⟨some 15, .load 1 false (.t 14) [], some (13, false)⟩,
   ⟨some 16, .call 77 [.t 15, .k (.int 0), .k (.int 4)], some (13, false)⟩,
   ⟨some 17, .not (.t 16), some (13, false)⟩,
   ⟨some 18, .pick (.t 13) (.k (.bool true)) (.t 17), none⟩,
   ⟨some 19, .mov (.t 18), none⟩,
   ⟨some 20, .fld 3 (.t 1), some (19, false)⟩,
   ⟨some 21, .load 1 false (.t 20) [], some (19, false)⟩,
   ⟨some 22, .call 77 [.t 21, .k (.int 0), .k (.int 30)], some (19, false)⟩,
   ⟨some 23, .not (.t 22), some (19, false)⟩,
   ⟨some 24, .pick (.t 19) (.k (.bool true)) (.t 23), none⟩,
   ⟨some 25, .mov (.t 24), none⟩,
   ⟨some 26, .load 6 true (.t 1) [], some (25, false)⟩,
   ⟨some 27, .fld 4 (.t 1), some (25, false)⟩,
   ⟨some 28, .load 1 false (.t 27) [], some (25, false)⟩,
   ⟨some 29, .call 86 [.t 26, .t 28], some (25, false)⟩,
   ⟨some 30, .not (.t 29), some (25, false)⟩,
   ⟨some 31, .pick (.t 25) (.k (.bool true)) (.t 30), none⟩,
   ⟨some 32, .mov (.t 31), none⟩,
   ⟨some 33, .load 6 true (.t 1) [], some (32, false)⟩,
   ⟨some 34, .fld 5 (.t 1), some (32, false)⟩,
   ⟨some 35, .load 1 false (.t 34) [], some (32, false)⟩,
   ⟨some 36, .call 86 [.t 33, .t 35], some (32, false)⟩,
   ⟨some 37, .not (.t 36), some (32, false)⟩,
   ⟨some 38, .pick (.t 32) (.k (.bool true)) (.t 37), none⟩] (some [38]))
 (.cond (.t 38)
  (.seq
  (.ops false [
    ⟨some 2, .mov (.k (.int 130)), none⟩] (some [2]))
  .ret)
  .skip))
 (.seq
 (.ops false [
   ⟨some 2, .mov (.k (.int 0)), none⟩] (some [2]))
 .ret)))

theorem m49 : fmatch Try.prog Try.f49 1 [.tmp 2] v49 = true := by kernel_rfl

/-- steening/steeninglaw13.SamePairs -/
def v54 : VC :=
 (.seq
 (.ops false [
   ⟨some 4, .mov (.k (.bool false)), none⟩] (some [0, 1]))
 (.seq
 (.seq
 (.ops false [
   ⟨some 6, .mov (.t 0), none⟩,
   ⟨some 7, .len (.t 6), none⟩,
   ⟨some 8, .mov (.t 1), none⟩,
   ⟨some 9, .len (.t 8), none⟩,
   ⟨some 10, .bin .neq (.t 7) (.t 9), none⟩] (some [0, 1, 10]))
 (.cond (.t 10)
  (.seq
  (.ops false [
    ⟨some 4, .mov (.k (.bool false)), none⟩] (some [4]))
  .ret)
  .skip))
 (.seq
 (.seq
 (.ops false [
   ⟨some 5, .mov (.k (.int 0)), none⟩] (some [0, 1, 5]))
 (.block 0
  (.loop
   (.seq
   (.seq
   (.ops false [
     ⟨some 11, .mov (.t 5), none⟩,
     ⟨some 12, .mov (.t 0), none⟩,
     ⟨some 13, .len (.t 12), none⟩,
     ⟨some 14, .bin .lss (.t 11) (.t 13), none⟩] (some [0, 1, 5, 14]))
   (.cond (.t 14)
    .skip
    (.exit 0)))
   (.seq
   (.block 1
    (.seq
    (.ops true [
      ⟨some 17, .mov (.t 0), none⟩,
      ⟨some 18, .mov (.t 5), none⟩,
      ⟨some 19, .idx 2 (.t 17) (.t 18), none⟩,
      ⟨some 20, .load 2 true (.t 19) [], none⟩,
      ⟨some 21, .mov (.t 1), none⟩,
      ⟨some 22, .mov (.t 5), none⟩,
      ⟨some 23, .idx 2 (.t 21) (.t 22), none⟩,
      ⟨some 24, .load 2 true (.t 23) [], none⟩,
      ⟨some 25, .bin (.sne 2) (.t 20) (.t 24), none⟩] (some [0, 1, 5, 25]))
    (.cond (.t 25)
     (.seq
     (.ops false [
       ⟨some 4, .mov (.k (.bool false)), none⟩] (some [4]))
     .ret)
     .skip)))
   (.ops false [
     ⟨some 15, .mov (.t 5), none⟩,
     ⟨some 16, .bin .add (.t 15) (.k (.int 1)), none⟩,
     ⟨some 5, .mov (.t 16), none⟩] (some [0, 1, 5])))))))
 (.seq
 (.ops false [
   ⟨some 4, .mov (.k (.bool true)), none⟩] (some [4]))
 .ret))))

theorem m54 : fmatch Try.prog Try.f54 2 [.tmp 4] v54 = true := by kernel_rfl

/-- steening/steeningref13.DaysOf -/
def v55 : VC :=
 (.seq
 (.ops false [
   ⟨some 2, .box 2 6 (.t 0), none⟩,
   ⟨some 4, .mov (.k (.int 0)), none⟩] (some [1, 2]))
 (.seq
 (.ops false [
   ⟨some 5, .mov (.k (.int 0)), none⟩] (some [1, 2, 5]))
 (.seq
 (.seq
 (.ops false [
   ⟨some 6, .mov (.k (.int 0)), none⟩] (some [1, 2, 5, 6]))
 (.block 0
  (.loop
   (.seq
   (.seq
   (.ops false [
     ⟨some 7, .mov (.t 6), none⟩,
     ⟨some 8, .mov (.t 1), none⟩,
     ⟨some 9, .len (.t 8), none⟩,
     ⟨some 10, .bin .lss (.t 7) (.t 9), none⟩] (some [1, 2, 5, 6, 10]))
   (.cond (.t 10)
    .skip
    (.exit 0)))
   (.seq
   (.block 1
    (.ops true [
      ⟨some 13, .mov (.t 5), none⟩,
      ⟨some 14, .fld 4 (.t 2), none⟩,
      ⟨some 15, .load 1 false (.t 14) [], none⟩,
      ⟨some 16, .mov (.t 1), none⟩,
      ⟨some 17, .mov (.t 6), none⟩,
      ⟨some 18, .idx 2 (.t 16) (.t 17), none⟩,
      ⟨some 19, .fld 0 (.t 18), none⟩,
      ⟨some 20, .load 1 false (.t 19) [], none⟩,
      ⟨some 21, .idx 3 (.t 15) (.t 20), none⟩,
      ⟨some 22, .load 3 true (.t 21) [], none⟩,
      ⟨some 23, .fld 5 (.t 2), none⟩,
      ⟨some 24, .load 1 false (.t 23) [], none⟩,
      ⟨some 25, .mov (.t 1), none⟩,
      ⟨some 26, .mov (.t 6), none⟩,
      ⟨some 27, .idx 2 (.t 25) (.t 26), none⟩,
      ⟨some 28, .fld 1 (.t 27), none⟩,
      ⟨some 29, .load 1 false (.t 28) [], none⟩,
      ⟨some 30, .idx 3 (.t 24) (.t 29), none⟩,
      ⟨some 31, .load 3 true (.t 30) [], none⟩,
      ⟨some 32, .call 90 [.t 22, .t 31], none⟩,
      ⟨some 33, .bin .add (.t 13) (.t 32), none⟩,
      ⟨some 5, .mov (.t 33), none⟩] (some [1, 2, 5, 6])))
   (.ops false [
     ⟨some 11, .mov (.t 6), none⟩,
     ⟨some 12, .bin .add (.t 11) (.k (.int 1)), none⟩,
     ⟨some 6, .mov (.t 12), none⟩] (some [1, 2, 5, 6])))))))
 (.seq
 (.ops false [
   ⟨some 34, .mov (.t 5), none⟩,
   ⟨some 4, .mov (.t 34), none⟩] (some [4]))
 .ret))))

theorem m55 : fmatch Try.prog Try.f55 2 [.tmp 4] v55 = true := by kernel_rfl

/-- steening/steeningref13.OwedBy -/
def v57 : VC :=
 (.seq
 (.ops false [
   ⟨some 3, .box 3 6 (.t 0), none⟩,
   ⟨some 6, .alloc 6 [.int 0, .int 0], none⟩] (some [1, 2, 3, 6]))
 (.seq
 (.ops false [
   ⟨some 7, .alloc 7 [.int 0, .int 0], none⟩] (some [1, 2, 3, 6, 7]))
 (.seq
 (.seq
 (.ops false [
   ⟨some 8, .mov (.k (.int 0)), none⟩] (some [1, 2, 3, 6, 7, 8]))
 (.block 0
  (.loop
   (.seq
   (.seq
   (.ops false [
     ⟨some 12, .mov (.t 8), none⟩,
     ⟨some 13, .mov (.t 1), none⟩,
     ⟨some 14, .len (.t 13), none⟩,
     ⟨some 15, .bin .lss (.t 12) (.t 14), none⟩] (some [1, 2, 3, 6, 7, 8, 15]))
   (.cond (.t 15)
    .skip
    (.exit 0)))
   (.seq
   (.block 1
    (.seq
    (.ops true [
      ⟨some 18, .fld 4 (.t 3), none⟩,
      ⟨some 19, .load 1 false (.t 18) [9], none⟩,
      ⟨some 20, .mov (.t 1), none⟩,
      ⟨some 21, .mov (.t 8), none⟩,
      ⟨some 22, .idx 2 (.t 20) (.t 21), none⟩,
      ⟨some 23, .fld 0 (.t 22), none⟩,
      ⟨some 24, .load 1 false (.t 23) [9], none⟩,
      ⟨some 25, .idx 3 (.t 19) (.t 24), none⟩,
      ⟨some 26, .load 3 true (.t 25) [9], none⟩,
      ⟨some 9, .alloc 9 [.int 0, .int 0, .sl 2 [] .full], none⟩,
      ⟨none, .store 3 (.t 9) (.t 26) (some 9), none⟩] (some [1, 2, 3, 6, 7, 8, 9]))
    (.seq
    (.ops false [
      ⟨some 27, .fld 1 (.t 9), none⟩,
      ⟨some 28, .load 1 false (.t 27) [], none⟩,
      ⟨some 29, .mov (.t 2), none⟩,
      ⟨some 30, .bin .eql (.t 28) (.t 29), none⟩] (some [1, 2, 3, 6, 7, 8, 9, 30]))
    (.cond (.t 30)
     (.ops true [
       ⟨some 31, .load 2 true (.t 7) [], none⟩,
       ⟨some 32, .load 6 true (.t 3) [7], none⟩,
       ⟨some 33, .load 3 true (.t 9) [7], none⟩,
       ⟨some 34, .fld 5 (.t 3), none⟩,
       ⟨some 35, .load 1 false (.t 34) [7], none⟩,
       ⟨some 36, .mov (.t 1), none⟩,
       ⟨some 37, .mov (.t 8), none⟩,
       ⟨some 38, .idx 2 (.t 36) (.t 37), none⟩,
       ⟨some 39, .fld 1 (.t 38), none⟩,
       ⟨some 40, .load 1 false (.t 39) [7], none⟩,
       ⟨some 41, .idx 3 (.t 35) (.t 40), none⟩,
       ⟨some 42, .load 3 true (.t 41) [7], none⟩,
       ⟨some 43, .call 87 [.t 32, .t 33, .t 42], none⟩,
       ⟨some 44, .call 91 [.t 31, .t 43], none⟩,
       ⟨none, .store 2 (.t 7) (.t 44) (some 7), none⟩] (some [1, 2, 3, 6, 7, 8]))
     .skip))))
   (.ops false [
     ⟨some 16, .mov (.t 8), none⟩,
     ⟨some 17, .bin .add (.t 16) (.k (.int 1)), none⟩,
     ⟨some 8, .mov (.t 17), none⟩] (some [1, 2, 3, 6, 7, 8])))))))
 (.seq
 (.seq
 (.ops false [
   ⟨some 10, .mov (.k (.int 0)), none⟩] (some [1, 2, 3, 6, 7, 10]))
 (.block 2
  (.loop
   (.seq
   (.seq
   (.ops false [
     ⟨some 45, .mov (.t 10), none⟩,
     ⟨some 46, .fld 4 (.t 3), none⟩,
     ⟨some 47, .load 1 false (.t 46) [], none⟩,
     ⟨some 48, .len (.t 47), none⟩,
     ⟨some 49, .bin .lss (.t 45) (.t 48), none⟩] (some [1, 2, 3, 6, 7, 10, 49]))
   (.cond (.t 49)
    .skip
    (.exit 2)))
   (.seq
   (.block 3
    (.seq
    (.ops false [
      ⟨some 52, .fld 4 (.t 3), none⟩,
      ⟨some 53, .load 1 false (.t 52) [], none⟩,
      ⟨some 54, .mov (.t 10), none⟩,
      ⟨some 55, .idx 3 (.t 53) (.t 54), none⟩,
      ⟨some 56, .fld 1 (.t 55), none⟩,
      ⟨some 57, .load 1 false (.t 56) [], none⟩,
      ⟨some 58, .mov (.t 2), none⟩,
      ⟨some 59, .bin .eql (.t 57) (.t 58), none⟩,
      ⟨some 60, .mov (.t 59), none⟩,
      ⟨some 61, .mov (.t 1), some (60, true)⟩,
      ⟨some 62, .mov (.t 10), some (60, true)⟩,
      ⟨some 63, .call 44 [.t 61, .t 62], some (60, true)⟩,
      ⟨some 64, .not (.t 63), some (60, true)⟩,
      ⟨some 65, .pick (.t 60) (.t 64) (.k (.bool false)), none⟩] (some [1, 2, 3, 6, 7, 10, 65]))
    (.cond (.t 65)
     (.ops true [
       ⟨some 66, .load 2 true (.t 7) [], none⟩,
       ⟨some 67, .load 6 true (.t 3) [7], none⟩,
       ⟨some 68, .fld 4 (.t 3), none⟩,
       ⟨some 69, .load 1 false (.t 68) [7], none⟩,
       ⟨some 70, .mov (.t 10), none⟩,
       ⟨some 71, .idx 3 (.t 69) (.t 70), none⟩,
       ⟨some 72, .fld 2 (.t 71), none⟩,
       ⟨some 73, .load 1 false (.t 72) [7], none⟩,
       ⟨some 74, .call 92 [.t 67, .t 73], none⟩,
       ⟨some 75, .call 91 [.t 66, .t 74], none⟩,
       ⟨none, .store 2 (.t 7) (.t 75) (some 7), none⟩] (some [1, 2, 3, 6, 7, 10]))
     .skip)))
   (.ops false [
     ⟨some 50, .mov (.t 10), none⟩,
     ⟨some 51, .bin .add (.t 50) (.k (.int 1)), none⟩,
     ⟨some 10, .mov (.t 51), none⟩] (some [1, 2, 3, 6, 7, 10])))))))
 (.seq
 (.seq
 (.ops false [
   ⟨some 11, .mov (.k (.int 0)), none⟩] (some [1, 2, 3, 6, 7, 11]))
 (.block 4
  (.loop
   (.seq
   (.seq
   (.ops false [
     ⟨some 76, .mov (.t 11), none⟩,
     ⟨some 77, .fld 5 (.t 3), none⟩,
     ⟨some 78, .load 1 false (.t 77) [], none⟩,
     ⟨some 79, .len (.t 78), none⟩,
     ⟨some 80, .bin .lss (.t 76) (.t 79), none⟩] (some [1, 2, 3, 6, 7, 11, 80]))
   (.cond (.t 80)
    .skip
    (.exit 4)))
   (.seq
   (.block 5
    (.seq
    (.ops false [
      ⟨some 83, .fld 5 (.t 3), none⟩,
      ⟨some 84, .load 1 false (.t 83) [], none⟩,
      ⟨some 85, .mov (.t 11), none⟩,
      ⟨some 86, .idx 3 (.t 84) (.t 85), none⟩,
      ⟨some 87, .fld 1 (.t 86), none⟩,
      ⟨some 88, .load 1 false (.t 87) [], none⟩,
      ⟨some 89, .mov (.t 2), none⟩,
      ⟨some 90, .bin .eql (.t 88) (.t 89), none⟩,
      ⟨some 91, .mov (.t 90), none⟩,
      ⟨some 92, .mov (.t 1), some (91, true)⟩,
      ⟨some 93, .mov (.t 11), some (91, true)⟩,
      ⟨some 94, .call 45 [.t 92, .t 93], some (91, true)⟩,
      ⟨some 95, .not (.t 94), some (91, true)⟩,
      ⟨some 96, .pick (.t 91) (.t 95) (.k (.bool false)), none⟩] (some [1, 2, 3, 6, 7, 11, 96]))
    (.cond (.t 96)
     (.ops true [
       ⟨some 97, .load 2 true (.t 7) [], none⟩,
       ⟨some 98, .load 6 true (.t 3) [7], none⟩,
       ⟨some 99, .fld 5 (.t 3), none⟩,
       ⟨some 100, .load 1 false (.t 99) [7], none⟩,
       ⟨some 101, .mov (.t 11), none⟩,
       ⟨some 102, .idx 3 (.t 100) (.t 101), none⟩,
       ⟨some 103, .fld 2 (.t 102), none⟩,
       ⟨some 104, .load 1 false (.t 103) [7], none⟩,
       ⟨some 105, .call 92 [.t 98, .t 104], none⟩,
       ⟨some 106, .call 91 [.t 97, .t 105], none⟩,
       ⟨none, .store 2 (.t 7) (.t 106) (some 7), none⟩] (some [1, 2, 3, 6, 7, 11]))
     .skip)))
   (.ops false [
     ⟨some 81, .mov (.t 11), none⟩,
     ⟨some 82, .bin .add (.t 81) (.k (.int 1)), none⟩,
     ⟨some 11, .mov (.t 82), none⟩] (some [1, 2, 3, 6, 7, 11])))))))
 (.seq
 (.ops false [
   ⟨some 107, .load 2 true (.t 7) [], none⟩,
   ⟨none, .store 2 (.t 6) (.t 107) (some 6), none⟩] (some [6]))
 .ret))))))

theorem m57 : fmatch Try.prog Try.f57 3 [.cell 6 36] v57 = true := by kernel_rfl

/-- steening/fines.Twice -/
def v60 : VC :=
 (.seq
 (.ops false [
   ⟨some 2, .box 2 6 (.t 0), none⟩,
   ⟨some 4, .nils 4 2, none⟩,
   ⟨some 5, .mov (.k (.int 0)), none⟩] (some [1, 2]))
 (.seq
 (.seq
 (.ops true [
   ⟨some 15, .load 6 true (.t 2) [], none⟩,
   ⟨some 16, .mov (.t 1), none⟩,
   ⟨some 17, .call 71 [.t 16, .k (.int 0), .k (.int 1)], none⟩,
   ⟨some 18, .call 70 [.t 15, .t 17], none⟩,
   ⟨some 6, .mov (.t 18), none⟩] (some [1, 2, 6]))
 (.seq
 (.ops false [
   ⟨some 19, .mov (.t 6), none⟩,
   ⟨some 20, .bin .neq (.t 19) (.k (.int 0)), none⟩] (some [1, 2, 6, 20]))
 (.cond (.t 20)
  (.seq
  (.ops false [
    ⟨some 21, .mov (.t 6), none⟩,
    ⟨some 4, .nils 501 2, none⟩,
    ⟨some 5, .mov (.t 21), none⟩] (some [4, 5]))
  .ret)
  .skip)))
 (.seq
 (.ops false [
   ⟨some 23, .load 6 true (.t 2) [], none⟩,
   ⟨some 24, .mov (.t 1), none⟩,
   ⟨some 25, .call 73 [.t 23, .t 24], none⟩,
   ⟨some 22, .mov (.t 25), none⟩,
   ⟨some 26, .ext (.t 22) 0, none⟩,
   ⟨some 27, .ext (.t 22) 1, none⟩,
   ⟨some 7, .mov (.t 26), none⟩,
   ⟨some 8, .mov (.t 27), none⟩] (some [2, 7]))
 (.seq
 (.ops false [
   ⟨some 9, .nils 9 2, none⟩] (some [2, 7, 9]))
 (.seq
 (.seq
 (.ops false [
   ⟨some 28, .mov (.t 7), none⟩,
   ⟨some 29, .len (.t 28), none⟩,
   ⟨some 30, .mov (.k (.int 0)), none⟩] (some [2, 7, 9, 28, 29, 30]))
 (.block 0
  (.loop
   (.seq
   (.ops false [
     ⟨some 31, .bin .lss (.t 30) (.t 29), none⟩] (some [2, 7, 9, 28, 29, 30, 31]))
   (.seq
   (.cond (.t 31)
    .skip
    (.exit 0))
   (.seq
   (.block 1
    (.seq
    (.ops false [
      ⟨some 32, .mov (.t 30), none⟩,
      ⟨some 33, .idx 3 (.t 28) (.t 30), none⟩,
      ⟨some 34, .load 3 true (.t 33) [], none⟩,
      ⟨some 11, .alloc 11 [.int 0, .int 0, .sl 2 [] .full], none⟩,
      ⟨some 10, .mov (.t 32), none⟩,
      ⟨none, .store 3 (.t 11) (.t 34) (some 11), none⟩] (some [2, 7, 9, 10, 11, 28, 29, 30]))
    (.seq
    (.ops false [
      ⟨some 35, .mov (.t 10), none⟩,
      ⟨some 36, .bin .add (.t 35) (.k (.int 1)), none⟩,
      ⟨some 12, .mov (.t 36), none⟩] (some [2, 7, 9, 10, 11, 12, 28, 29, 30]))
    (.block 2
     (.loop
      (.seq
      (.seq
      (.ops false [
        ⟨some 37, .mov (.t 12), none⟩,
        ⟨some 38, .mov (.t 7), none⟩,
        ⟨some 39, .len (.t 38), none⟩,
        ⟨some 40, .bin .lss (.t 37) (.t 39), none⟩] (some [2, 7, 9, 10, 11, 12, 28, 29, 30, 40]))
      (.cond (.t 40)
       .skip
       (.exit 2)))
      (.seq
      (.block 3
       (.seq
       (.ops true [
         ⟨some 44, .fld 3 (.t 2), none⟩,
         ⟨some 45, .load 1 false (.t 44) [], none⟩,
         ⟨some 46, .load 3 true (.t 11) [], none⟩,
         ⟨some 47, .mov (.t 7), none⟩,
         ⟨some 48, .mov (.t 12), none⟩,
         ⟨some 49, .idx 3 (.t 47) (.t 48), none⟩,
         ⟨some 50, .load 3 true (.t 49) [], none⟩,
         ⟨some 51, .call 79 [.t 45, .t 46, .t 50], none⟩,
         ⟨some 43, .mov (.t 51), none⟩,
         ⟨some 52, .ext (.t 43) 0, none⟩,
         ⟨some 53, .ext (.t 43) 1, none⟩,
         ⟨some 13, .mov (.t 52), none⟩,
         ⟨some 14, .mov (.t 53), none⟩] (some [2, 7, 9, 10, 11, 12, 14, 28, 29, 30]))
       (.seq
       (.ops false [
         ⟨some 54, .mov (.t 14), none⟩] (some [2, 7, 9, 10, 11, 12, 28, 29, 30, 54]))
       (.cond (.t 54)
        (.ops false [
          ⟨some 55, .mov (.t 9), none⟩,
          ⟨some 56, .mov (.t 10), none⟩,
          ⟨some 57, .mov (.t 12), none⟩,
          ⟨some 58, .build [.int 0, .int 0] [(0, 1, .t 56), (1, 1, .t 57)], none⟩,
          ⟨some 59, .bslice 2 [.t 58], none⟩,
          ⟨some 60, .app 9 2 16 (.t 55) (.t 59), none⟩,
          ⟨some 9, .mov (.t 60), none⟩] (some [2, 7, 9, 10, 11, 12, 28, 29, 30]))
        .skip))))
      (.ops false [
        ⟨some 41, .mov (.t 12), none⟩,
        ⟨some 42, .bin .add (.t 41) (.k (.int 1)), none⟩,
        ⟨some 12, .mov (.t 42), none⟩] (some [2, 7, 9, 10, 11, 12, 28, 29, 30])))))))))
   (.ops false [
     ⟨some 61, .bin .add (.t 30) (.k (.int 1)), none⟩,
     ⟨some 30, .mov (.t 61), none⟩] (some [2, 7, 9, 28, 29, 30]))))))))
 (.seq
 (.ops false [
   ⟨some 62, .mov (.t 9), none⟩,
   ⟨some 4, .mov (.t 62), none⟩,
   ⟨some 5, .mov (.k (.int 0)), none⟩] (some [4, 5]))
 .ret))))))

theorem m60 : fmatch Try.prog Try.f60 2 [.tmp 4, .tmp 5] v60 = true := by kernel_rfl

/-- steening/steeningref01.SameInts -/
def v62 : VC :=
 (.seq
 (.ops false [
   ⟨some 4, .mov (.k (.bool false)), none⟩] (some [0, 1]))
 (.seq
 (.seq
 (.ops false [
   ⟨some 6, .mov (.t 0), none⟩,
   ⟨some 7, .len (.t 6), none⟩,
   ⟨some 8, .mov (.t 1), none⟩,
   ⟨some 9, .len (.t 8), none⟩,
   ⟨some 10, .bin .neq (.t 7) (.t 9), none⟩] (some [0, 1, 10]))
 (.cond (.t 10)
  (.seq
  (.ops false [
    ⟨some 4, .mov (.k (.bool false)), none⟩] (some [4]))
  .ret)
  .skip))
 (.seq
 (.seq
 (.ops false [
   ⟨some 5, .mov (.k (.int 0)), none⟩] (some [0, 1, 5]))
 (.block 0
  (.loop
   (.seq
   (.seq
   (.ops false [
     ⟨some 11, .mov (.t 5), none⟩,
     ⟨some 12, .mov (.t 0), none⟩,
     ⟨some 13, .len (.t 12), none⟩,
     ⟨some 14, .bin .lss (.t 11) (.t 13), none⟩] (some [0, 1, 5, 14]))
   (.cond (.t 14)
    .skip
    (.exit 0)))
   (.seq
   (.block 1
    (.seq
    (.ops true [
      ⟨some 17, .mov (.t 0), none⟩,
      ⟨some 18, .mov (.t 5), none⟩,
      ⟨some 19, .idx 1 (.t 17) (.t 18), none⟩,
      ⟨some 20, .load 1 false (.t 19) [], none⟩,
      ⟨some 21, .mov (.t 1), none⟩,
      ⟨some 22, .mov (.t 5), none⟩,
      ⟨some 23, .idx 1 (.t 21) (.t 22), none⟩,
      ⟨some 24, .load 1 false (.t 23) [], none⟩,
      ⟨some 25, .bin .neq (.t 20) (.t 24), none⟩] (some [0, 1, 5, 25]))
    (.cond (.t 25)
     (.seq
     (.ops false [
       ⟨some 4, .mov (.k (.bool false)), none⟩] (some [4]))
     .ret)
     .skip)))
   (.ops false [
     ⟨some 15, .mov (.t 5), none⟩,
     ⟨some 16, .bin .add (.t 15) (.k (.int 1)), none⟩,
     ⟨some 5, .mov (.t 16), none⟩] (some [0, 1, 5])))))))
 (.seq
 (.ops false [
   ⟨some 4, .mov (.k (.bool true)), none⟩] (some [4]))
 .ret))))

theorem m62 : fmatch Try.prog Try.f62 2 [.tmp 4] v62 = true := by kernel_rfl

/-- steening/steeninglaw13.Example -/
def v63 : VC :=
 (.seq
 (.ops false [
   ⟨some 0, .alloc 0 [.int 0, .int 0, .int 0, .int 0, .sl 3 [] .full, .sl 3 [] .full], none⟩] (some [0]))
 (.seq
 (.ops false [
   ⟨some 1, .build [.int 0, .int 0] [(0, 1, .k (.int 1)), (1, 1, .k (.int 1))], none⟩,
   ⟨some 2, .build [.int 0, .int 0] [(0, 1, .k (.int 2)), (1, 1, .k (.int 5))], none⟩,
   ⟨some 3, .bslice 2 [.t 1, .t 2], none⟩,
   ⟨some 4, .build [.int 0, .int 0, .sl 2 [] .sh] [(0, 1, .k (.int 1)), (2, 1, .t 3)], none⟩,
   ⟨some 5, .build [.int 0, .int 0] [], none⟩,
   ⟨some 6, .build [.int 0, .int 0] [(0, 1, .k (.int 7)), (1, 1, .k (.int 7))], none⟩,
   ⟨some 7, .bslice 2 [.t 5, .t 6], none⟩,
   ⟨some 8, .build [.int 0, .int 0, .sl 2 [] .sh] [(0, 1, .k (.int 4)), (1, 1, .k (.int 1)), (2, 1, .t 7)], none⟩,
   ⟨some 9, .bslice 3 [.t 4, .t 8], none⟩,
   ⟨some 10, .build [.int 0, .int 0] [(0, 1, .k (.int 1)), (1, 1, .k (.int 1))], none⟩,
   ⟨some 11, .build [.int 0, .int 0] [(0, 1, .k (.int 4)), (1, 1, .k (.int 9))], none⟩,
   ⟨some 12, .bslice 2 [.t 10, .t 11], none⟩,
   ⟨some 13, .build [.int 0, .int 0, .sl 2 [] .sh] [(0, 1, .k (.int 3)), (2, 1, .t 12)], none⟩,
   ⟨some 14, .build [.int 0, .int 0] [], none⟩,
   ⟨some 15, .build [.int 0, .int 0] [(0, 1, .k (.int 7)), (1, 1, .k (.int 7))], none⟩,
   ⟨some 16, .bslice 2 [.t 14, .t 15], none⟩,
   ⟨some 17, .build [.int 0, .int 0, .sl 2 [] .sh] [(0, 1, .k (.int 9)), (1, 1, .k (.int 1)), (2, 1, .t 16)], none⟩,
   ⟨some 18, .build [.int 0, .int 0] [(1, 1, .k (.int 1))], none⟩,
   ⟨some 19, .build [.int 0, .int 0] [(0, 1, .k (.int 3)), (1, 1, .k (.int 3))], none⟩,
   ⟨some 20, .bslice 2 [.t 18, .t 19], none⟩,
   ⟨some 21, .build [.int 0, .int 0, .sl 2 [] .sh] [(0, 1, .k (.int 2)), (2, 1, .t 20)], none⟩,
   ⟨some 22, .bslice 3 [.t 13, .t 17, .t 21], none⟩,
   ⟨some 23, .build [.int 0, .int 0, .int 0, .int 0, .sl 3 [] .sh, .sl 3 [] .sh] [(0, 1, .k (.int 10)), (1, 1, .k (.int 2)), (2, 1, .k (.int 2)), (3, 1, .k (.int 3)), (4, 1, .t 9), (5, 1, .t 22)], none⟩,
   ⟨none, .store 6 (.t 0) (.t 23) (some 0), none⟩] (some [0]))
 .ret))

theorem m63 : fmatch Try.prog Try.f63 0 [.cell 0 24] v63 = true := by kernel_rfl

end Go.Proofs.Ytemnojaoickjfaa


/- The compact code of the functions, and that it is theirs. -/
namespace Go.Proofs.Ytemnojaoickjfaa
open Go Go.V
set_option maxRecDepth 100000

/-- steening/steeningref13.CopyEntries -/
def v26f : VC :=
 (.seq
 (.ops false [
   ⟨some 2, .nils 2 3, none⟩] (some [0]))
 (.seq
 (.ops false [
   ⟨some 3, .nils 3 3, none⟩] (some [0, 3]))
 (.seq
 (.seq
 (.ops false [
   ⟨some 4, .mov (.k (.int 0)), none⟩] (some [0, 3, 4]))
 (.block 0
  (.loop
   (.seq
   (.seq
   (.ops false [
     ⟨some 6, .mov (.t 4), none⟩,
     ⟨some 7, .mov (.t 0), none⟩,
     ⟨some 8, .len (.t 7), none⟩,
     ⟨some 9, .bin .lss (.t 6) (.t 8), none⟩] (some [0, 3, 4, 9]))
   (.cond (.t 9)
    .skip
    (.exit 0)))
   (.seq
   (.block 1
    (.seq
    (.ops false [
      ⟨some 12, .mov (.t 0), none⟩,
      ⟨some 13, .mov (.t 4), none⟩,
      ⟨some 14, .idx 3 (.t 12) (.t 13), none⟩,
      ⟨some 15, .load 3 true (.t 14) [], none⟩,
      ⟨some 5, .alloc 5 [.int 0, .int 0, .sl 2 [] .full], none⟩,
      ⟨none, .store 3 (.t 5) (.t 15) (some 5), none⟩] (some [0, 3, 4, 5]))
    (.seq
    (.ops false [
      ⟨some 16, .bslice 2 [], none⟩,
      ⟨some 17, .fld 2 (.t 5), none⟩,
      ⟨some 18, .load 1 false (.t 17) [], none⟩,
      ⟨some 19, .app 19 2 16 (.t 16) (.t 18), none⟩,
      ⟨some 20, .fld 2 (.t 5), none⟩,
      ⟨none, .store 1 (.t 20) (.t 19) (some 5), none⟩] (some [0, 3, 4, 5]))
    (.ops false [
      ⟨some 21, .mov (.t 3), none⟩,
      ⟨some 22, .load 3 true (.t 5) [], none⟩,
      ⟨some 23, .bslice 3 [.t 22], none⟩,
      ⟨some 24, .app 3 3 40 (.t 21) (.t 23), none⟩,
      ⟨some 3, .mov (.t 24), none⟩] (some [0, 3, 4])))))
   (.ops false [
     ⟨some 10, .mov (.t 4), none⟩,
     ⟨some 11, .bin .add (.t 10) (.k (.int 1)), none⟩,
     ⟨some 4, .mov (.t 11), none⟩] (some [0, 3, 4])))))))
 (.seq
 (.ops false [
   ⟨some 25, .mov (.t 3), none⟩,
   ⟨some 2, .mov (.t 25), none⟩] (some [2]))
 .ret))))

theorem m26f : fmatch Try.prog Try.f26 1 [.tmp 2] v26f = true := by kernel_rfl

end Go.Proofs.Ytemnojaoickjfaa


/- The compact code of the functions, and that it is theirs. -/
namespace Go.Proofs.Ytemnojaoickjfaa
open Go Go.V
set_option maxRecDepth 100000

/-- steening/steeningref13.matchings -/
def v94r (k : Nat) : VC :=
 (.seq
 (.ops false [
   ⟨some 3, .box 3 6 (.t 0), none⟩,
   ⟨some 6, .nils k 1, none⟩] (some [1, 2, 3]))
 (.seq
 (.seq
 (.ops false [
   ⟨some 10, .mov (.t 2), none⟩,
   ⟨some 11, .fld 4 (.t 3), none⟩,
   ⟨some 12, .load 1 false (.t 11) [], none⟩,
   ⟨some 13, .len (.t 12), none⟩,
   ⟨some 14, .bin .eql (.t 10) (.t 13), none⟩] (some [1, 2, 3, 14]))
 (.cond (.t 14)
  (.seq
  (.opsN false [
    ⟨some 15, .mov (.t 1), none⟩,
    ⟨some 16, .bslice 1 [.t 15], none⟩,
    ⟨some 6, .mov (.t 16), none⟩] (some [6]))
  .ret)
  .skip))
 (.seq
 (.opsN false [
   ⟨some 17, .load 6 true (.t 3) [], none⟩,
   ⟨some 18, .mov (.t 1), none⟩,
   ⟨some 19, .mov (.t 2), none⟩,
   ⟨some 20, .bin .add (.t 19) (.k (.int 1)), none⟩,
   ⟨some 21, .calli 94 [.t 17, .t 18, .t 20], none⟩,
   ⟨some 7, .mov (.t 21), none⟩] (some [1, 2, 3, 7]))
 (.seq
 (.seq
 (.ops false [
   ⟨some 8, .mov (.k (.int 0)), none⟩] (some [1, 2, 3, 7, 8]))
 (.block 0
  (.loop
   (.seq
   (.seq
   (.ops false [
     ⟨some 22, .mov (.t 8), none⟩,
     ⟨some 23, .fld 5 (.t 3), none⟩,
     ⟨some 24, .load 1 false (.t 23) [], none⟩,
     ⟨some 25, .len (.t 24), none⟩,
     ⟨some 26, .bin .lss (.t 22) (.t 25), none⟩] (some [1, 2, 3, 7, 8, 26]))
   (.cond (.t 26)
    .skip
    (.exit 0)))
   (.seq
   (.block 1
    (.seq
    (.ops false [
      ⟨some 29, .bslice 2 [], none⟩,
      ⟨some 30, .mov (.t 1), none⟩,
      ⟨some 31, .app k 2 16 (.t 29) (.t 30), none⟩,
      ⟨some 32, .mov (.t 2), none⟩,
      ⟨some 33, .mov (.t 8), none⟩,
      ⟨some 34, .build [.int 0, .int 0] [(0, 1, .t 32), (1, 1, .t 33)], none⟩,
      ⟨some 35, .bslice 2 [.t 34], none⟩,
      ⟨some 36, .app (k+1) 2 16 (.t 31) (.t 35), none⟩,
      ⟨some 9, .mov (.t 36), none⟩] (some [1, 2, 3, 7, 8, 9]))
    (.seq
    (.ops false [
      ⟨some 37, .load 6 true (.t 3) [], none⟩,
      ⟨some 38, .mov (.t 9), none⟩,
      ⟨some 39, .call 32 [.t 37, .t 38], none⟩] (some [1, 2, 3, 7, 8, 9, 39]))
    (.cond (.t 39)
     (.opsN false [
       ⟨some 40, .mov (.t 7), none⟩,
       ⟨some 41, .load 6 true (.t 3) [], none⟩,
       ⟨some 42, .mov (.t 9), none⟩,
       ⟨some 43, .mov (.t 2), none⟩,
       ⟨some 44, .bin .add (.t 43) (.k (.int 1)), none⟩,
       ⟨some 45, .calli 94 [.t 41, .t 42, .t 44], none⟩,
       ⟨some 46, .app (k+2) 1 24 (.t 40) (.t 45), none⟩,
       ⟨some 7, .mov (.t 46), none⟩] (some [1, 2, 3, 7, 8]))
     .skip))))
   (.ops false [
     ⟨some 27, .mov (.t 8), none⟩,
     ⟨some 28, .bin .add (.t 27) (.k (.int 1)), none⟩,
     ⟨some 8, .mov (.t 28), none⟩] (some [1, 2, 3, 7, 8])))))))
 (.seq
 (.ops false [
   ⟨some 47, .mov (.t 7), none⟩,
   ⟨some 6, .mov (.t 47), none⟩] (some [6]))
 .ret)))))

theorem m94r (k : Nat) : fmatch Try.prog Try.f94 3 [.tmp 6] (v94r k) = true := by kernel_rfl

/-- steening/steeningref13.largest -/
def v66r : VC :=
 (.seq
 (.ops false [
   ⟨some 1, .box 1 6 (.t 0), none⟩,
   ⟨some 2, .nils 2 1, none⟩] (some [1]))
 (.seq
 (.opsN false [
   ⟨some 8, .load 6 true (.t 1) [], none⟩,
   ⟨some 9, .calli 94 [.t 8, .k (.sl 2 [] .full), .k (.int 0)], none⟩,
   ⟨some 3, .mov (.t 9), none⟩] (some [3]))
 (.seq
 (.ops false [
   ⟨some 4, .mov (.k (.int 0)), none⟩] (some [3, 4]))
 (.seq
 (.seq
 (.ops false [
   ⟨some 5, .mov (.k (.int 0)), none⟩] (some [3, 4, 5]))
 (.block 0
  (.loop
   (.seq
   (.seq
   (.ops false [
     ⟨some 10, .mov (.t 5), none⟩,
     ⟨some 11, .mov (.t 3), none⟩,
     ⟨some 12, .len (.t 11), none⟩,
     ⟨some 13, .bin .lss (.t 10) (.t 12), none⟩] (some [3, 4, 5, 13]))
   (.cond (.t 13)
    .skip
    (.exit 0)))
   (.seq
   (.block 1
    (.ops false [
      ⟨some 16, .mov (.t 4), none⟩,
      ⟨some 17, .mov (.t 3), none⟩,
      ⟨some 18, .mov (.t 5), none⟩,
      ⟨some 19, .idx 1 (.t 17) (.t 18), none⟩,
      ⟨some 20, .load 1 false (.t 19) [], none⟩,
      ⟨some 21, .len (.t 20), none⟩,
      ⟨some 22, .max (.t 16) (.t 21), none⟩,
      ⟨some 4, .mov (.t 22), none⟩] (some [3, 4, 5])))
   (.ops false [
     ⟨some 14, .mov (.t 5), none⟩,
     ⟨some 15, .bin .add (.t 14) (.k (.int 1)), none⟩,
     ⟨some 5, .mov (.t 15), none⟩] (some [3, 4, 5])))))))
 (.seq
 (.ops false [
   ⟨some 6, .nils 6 1, none⟩] (some [3, 4, 6]))
 (.seq
 (.seq
 (.ops false [
   ⟨some 7, .mov (.k (.int 0)), none⟩] (some [3, 4, 6, 7]))
 (.block 2
  (.loop
   (.seq
   (.seq
   (.ops false [
     ⟨some 23, .mov (.t 7), none⟩,
     ⟨some 24, .mov (.t 3), none⟩,
     ⟨some 25, .len (.t 24), none⟩,
     ⟨some 26, .bin .lss (.t 23) (.t 25), none⟩] (some [3, 4, 6, 7, 26]))
   (.cond (.t 26)
    .skip
    (.exit 2)))
   (.seq
   (.block 3
    (.seq
    (.ops false [
      ⟨some 29, .mov (.t 3), none⟩,
      ⟨some 30, .mov (.t 7), none⟩,
      ⟨some 31, .idx 1 (.t 29) (.t 30), none⟩,
      ⟨some 32, .load 1 false (.t 31) [], none⟩,
      ⟨some 33, .len (.t 32), none⟩,
      ⟨some 34, .mov (.t 4), none⟩,
      ⟨some 35, .bin .eql (.t 33) (.t 34), none⟩] (some [3, 4, 6, 7, 35]))
    (.cond (.t 35)
     (.ops false [
       ⟨some 36, .mov (.t 6), none⟩,
       ⟨some 37, .mov (.t 3), none⟩,
       ⟨some 38, .mov (.t 7), none⟩,
       ⟨some 39, .idx 1 (.t 37) (.t 38), none⟩,
       ⟨some 40, .load 1 false (.t 39) [], none⟩,
       ⟨some 41, .bslice 1 [.t 40], none⟩,
       ⟨some 42, .app 6 1 24 (.t 36) (.t 41), none⟩,
       ⟨some 6, .mov (.t 42), none⟩] (some [3, 4, 6, 7]))
     .skip)))
   (.ops false [
     ⟨some 27, .mov (.t 7), none⟩,
     ⟨some 28, .bin .add (.t 27) (.k (.int 1)), none⟩,
     ⟨some 7, .mov (.t 28), none⟩] (some [3, 4, 6, 7])))))))
 (.seq
 (.ops false [
   ⟨some 43, .mov (.t 6), none⟩,
   ⟨some 2, .mov (.t 43), none⟩] (some [2]))
 .ret)))))))

theorem m66r : fmatch Try.prog Try.f66 1 [.tmp 2] v66r = true := by kernel_rfl

end Go.Proofs.Ytemnojaoickjfaa


/- The compact code of the functions, and that it is theirs. -/
namespace Go.Proofs.Ytemnojaoickjfaa
open Go Go.V
set_option maxRecDepth 100000

/-- steening/fines.matchings -/
def v93r : VC :=
 (.seq
 (.ops false [
   ⟨some 1, .box 1001 6 (.t 0), none⟩,
   ⟨some 2, .mov (.k .und), none⟩] (some [1]))
 (.seq
 (.ops false [
   ⟨some 3, .mkw 113 [.t 1], none⟩,
   ⟨some 2, .mov (.t 3), none⟩] (some [2]))
 .ret))

theorem m93r : fmatch Try.prog Try.f93 1 [.tmp 2] v93r = true := by kernel_rfl

/-- steening/fines.matchings$1 -/
def v113r : VC :=
 (.seq
 (.ops false [
   ⟨some 2, .box 2002 1 (.t 0), none⟩] (some [1, 2]))
 (.seq
 (.ops false [
   ⟨some 3, .alloc 2003 [.und], none⟩] (some [1, 2, 3]))
 (.seq
 (.ops false [
   ⟨some 4, .mkw 114 [.t 1, .t 2, .t 3], none⟩,
   ⟨none, .store 1 (.t 3) (.t 4) (some 2003), none⟩] (some [3]))
 (.ops false [
   ⟨some 5, .load 1 false (.t 3) [], none⟩,
   ⟨some 6, .callw (.t 5) [.k (.sl 2 [] .full), .k (.int 0), .k (.un 0)], none⟩] (some [])))))

theorem m113r : fmatch Try.prog Try.f113 2 [] v113r = true := by kernel_rfl

/-- steening/fines.matchings$1$1 -/
def v114r (k : Nat) : VC :=
 (.seq
 (.ops false [
   ⟨some 9, .mov (.k (.bool false)), none⟩] (some [0, 1, 2, 3, 4, 5]))
 (.seq
 (.seq
 (.ops false [
   ⟨some 14, .mov (.t 1), none⟩,
   ⟨some 15, .fld 4 (.t 3), none⟩,
   ⟨some 16, .load 1 false (.t 15) [], none⟩,
   ⟨some 17, .len (.t 16), none⟩,
   ⟨some 18, .bin .eql (.t 14) (.t 17), none⟩] (some [0, 1, 2, 3, 4, 5, 18]))
 (.cond (.t 18)
  (.seq
  (.ops false [
    ⟨some 19, .load 1 false (.t 4) [], none⟩,
    ⟨some 20, .mov (.t 0), none⟩,
    ⟨some 21, .yield (.t 19) [.t 20], none⟩,
    ⟨some 9, .mov (.t 21), none⟩] (some [9]))
  .ret)
  .skip))
 (.seq
 (.seq
 (.ops false [
   ⟨some 22, .load 1 false (.t 5) [], none⟩,
   ⟨some 23, .mov (.t 0), none⟩,
   ⟨some 24, .mov (.t 1), none⟩,
   ⟨some 25, .bin .add (.t 24) (.k (.int 1)), none⟩,
   ⟨some 26, .mov (.t 2), none⟩,
   ⟨some 27, .callw (.t 22) [.t 23, .t 25, .t 26], none⟩,
   ⟨some 28, .not (.t 27), none⟩] (some [0, 1, 2, 3, 5, 28]))
 (.cond (.t 28)
  (.seq
  (.ops false [
    ⟨some 9, .mov (.k (.bool false)), none⟩] (some [9]))
  .ret)
  .skip))
 (.seq
 (.seq
 (.ops false [
   ⟨some 29, .fld 5 (.t 3), none⟩,
   ⟨some 30, .load 1 false (.t 29) [], none⟩,
   ⟨some 31, .len (.t 30), none⟩,
   ⟨some 32, .mov (.k (.int 0)), none⟩] (some [0, 1, 2, 3, 5, 30, 31, 32]))
 (.block 0
  (.loop
   (.seq
   (.ops false [
     ⟨some 33, .bin .lss (.t 32) (.t 31), none⟩] (some [0, 1, 2, 3, 5, 30, 31, 32, 33]))
   (.seq
   (.cond (.t 33)
    .skip
    (.exit 0))
   (.seq
   (.block 1
    (.seq
    (.ops false [
      ⟨some 34, .mov (.t 32), none⟩,
      ⟨some 35, .idx 3 (.t 30) (.t 32), none⟩,
      ⟨some 36, .load 3 true (.t 35) [], none⟩,
      ⟨some 11, .alloc 3011 [.int 0, .int 0, .sl 2 [] .full], none⟩,
      ⟨some 10, .mov (.t 34), none⟩,
      ⟨none, .store 3 (.t 11) (.t 36) (some 3011), none⟩] (some [0, 1, 2, 3, 5, 10, 11, 30, 31, 32]))
    (.seq
    (.seq
    (.ops false [
      ⟨some 37, .mov (.t 2), none⟩,
      ⟨some 38, .mov (.t 10), none⟩,
      ⟨some 39, .bin .shr (.t 37) (.t 38), none⟩,
      ⟨some 40, .bin .band (.t 39) (.k (.un 1)), none⟩,
      ⟨some 41, .bin .eql (.t 40) (.k (.un 1)), none⟩] (some [0, 1, 2, 3, 5, 10, 11, 30, 31, 32, 41]))
    (.cond (.t 41)
     (.exit 1)
     .skip))
    (.seq
    (.ops true [
      ⟨some 43, .fld 3 (.t 3), none⟩,
      ⟨some 44, .load 1 false (.t 43) [], none⟩,
      ⟨some 45, .fld 4 (.t 3), none⟩,
      ⟨some 46, .load 1 false (.t 45) [], none⟩,
      ⟨some 47, .mov (.t 1), none⟩,
      ⟨some 48, .idx 3 (.t 46) (.t 47), none⟩,
      ⟨some 49, .load 3 true (.t 48) [], none⟩,
      ⟨some 50, .load 3 true (.t 11) [], none⟩,
      ⟨some 51, .call 79 [.t 44, .t 49, .t 50], none⟩,
      ⟨some 42, .mov (.t 51), none⟩,
      ⟨some 52, .ext (.t 42) 0, none⟩,
      ⟨some 53, .ext (.t 42) 1, none⟩,
      ⟨some 12, .mov (.t 52), none⟩,
      ⟨some 13, .mov (.t 53), none⟩] (some [0, 1, 2, 3, 5, 10, 13, 30, 31, 32]))
    (.seq
    (.opsB [
      ⟨some 54, .mov (.t 13), none⟩,
      ⟨some 55, .mov (.t 54), none⟩,
      ⟨some 56, .load 1 false (.t 5) [], some (55, true)⟩,
      ⟨some 57, .mov (.t 0), some (55, true)⟩,
      ⟨some 58, .mov (.t 0), some (55, true)⟩,
      ⟨some 59, .len (.t 58), some (55, true)⟩,
      ⟨some 60, .mov (.t 0), some (55, true)⟩,
      ⟨some 61, .len (.t 60), some (55, true)⟩,
      ⟨some 62, .sliceF 2 (.t 57) none (some (.t 59)) (some (.t 61)), some (55, true)⟩,
      ⟨some 63, .mov (.t 1), some (55, true)⟩,
      ⟨some 64, .mov (.t 10), some (55, true)⟩,
      ⟨some 65, .build [.int 0, .int 0] [(0, 1, .t 63), (1, 1, .t 64)], some (55, true)⟩,
      ⟨some 66, .bslice 2 [.t 65], some (55, true)⟩,
      ⟨some 67, .app k 2 16 (.t 62) (.t 66), some (55, true)⟩,
      ⟨some 68, .mov (.t 1), some (55, true)⟩,
      ⟨some 69, .bin .add (.t 68) (.k (.int 1)), some (55, true)⟩,
      ⟨some 70, .mov (.t 2), some (55, true)⟩,
      ⟨some 71, .mov (.t 10), some (55, true)⟩,
      ⟨some 72, .bin .shl (.k (.un 1)) (.t 71), some (55, true)⟩,
      ⟨some 73, .bin .bor (.t 70) (.t 72), some (55, true)⟩]
      ⟨some 74, .callw (.t 56) [.t 67, .t 69, .t 73], some (55, true)⟩
      [
      ⟨some 75, .not (.t 74), some (55, true)⟩,
      ⟨some 76, .pick (.t 55) (.t 75) (.k (.bool false)), none⟩] (some [0, 1, 2, 3, 5, 30, 31, 32, 76]))
    (.cond (.t 76)
     (.seq
     (.ops false [
       ⟨some 9, .mov (.k (.bool false)), none⟩] (some [9]))
     .ret)
     .skip))))))
   (.ops false [
     ⟨some 77, .bin .add (.t 32) (.k (.int 1)), none⟩,
     ⟨some 32, .mov (.t 77), none⟩] (some [0, 1, 2, 3, 5, 30, 31, 32]))))))))
 (.seq
 (.ops false [
   ⟨some 9, .mov (.k (.bool true)), none⟩] (some [9]))
 .ret)))))

theorem m114r (k : Nat) : fmatch Try.prog Try.f114 6 [.tmp 9] (v114r k) = true := by kernel_rfl

/-- steening/fines.largest -/
def v64r : VC :=
 (.seq
 (.ops false [
   ⟨some 1, .box 1 6 (.t 0), none⟩,
   ⟨some 2, .nils 2 1, none⟩] (some [1]))
 (.seq
 (.ops false [
   ⟨some 3, .alloc 3 [.sl 1 [] .full], none⟩] (some [1, 3]))
 (.seq
 (.seq
 (.ops false [
   ⟨some 5, .load 6 true (.t 1) [], none⟩,
   ⟨some 6, .calli 93 [.t 5], none⟩] (some [3, 6]))
 (.block 0
  (.range (.t 6) [7]
   (.ops false [
     ⟨some 4, .mov (.t 7), none⟩] (some [3, 4]))
   (.block 1
    (.seq
    (.seq
    (.ops false [
      ⟨some 8, .load 1 false (.t 3) [], none⟩,
      ⟨some 9, .len (.t 8), none⟩,
      ⟨some 10, .bin .gtr (.t 9) (.k (.int 0)), none⟩,
      ⟨some 11, .mov (.t 10), none⟩,
      ⟨some 12, .mov (.t 4), some (11, true)⟩,
      ⟨some 13, .len (.t 12), some (11, true)⟩,
      ⟨some 14, .load 1 false (.t 3) [], some (11, true)⟩,
      ⟨some 15, .idx 1 (.t 14) (.k (.int 0)), some (11, true)⟩,
      ⟨some 16, .load 1 false (.t 15) [], some (11, true)⟩,
      ⟨some 17, .len (.t 16), some (11, true)⟩,
      ⟨some 18, .bin .gtr (.t 13) (.t 17), some (11, true)⟩,
      ⟨some 19, .pick (.t 11) (.t 18) (.k (.bool false)), none⟩] (some [3, 4, 19]))
    (.cond (.t 19)
     (.ops false [
       ⟨none, .store 1 (.t 3) (.k (.sl 1 [] .full)) (some 3), none⟩] (some [3, 4]))
     .skip))
    (.seq
    (.ops false [
      ⟨some 20, .load 1 false (.t 3) [], none⟩,
      ⟨some 21, .len (.t 20), none⟩,
      ⟨some 22, .bin .eql (.t 21) (.k (.int 0)), none⟩,
      ⟨some 23, .mov (.t 22), none⟩,
      ⟨some 24, .mov (.t 4), some (23, false)⟩,
      ⟨some 25, .len (.t 24), some (23, false)⟩,
      ⟨some 26, .load 1 false (.t 3) [], some (23, false)⟩,
      ⟨some 27, .idx 1 (.t 26) (.k (.int 0)), some (23, false)⟩,
      ⟨some 28, .load 1 false (.t 27) [], some (23, false)⟩,
      ⟨some 29, .len (.t 28), some (23, false)⟩,
      ⟨some 30, .bin .eql (.t 25) (.t 29), some (23, false)⟩,
      ⟨some 31, .pick (.t 23) (.k (.bool true)) (.t 30), none⟩] (some [3, 4, 31]))
    (.cond (.t 31)
     (.ops false [
       ⟨some 32, .load 1 false (.t 3) [], none⟩,
       ⟨some 33, .mov (.t 4), none⟩,
       ⟨some 34, .bslice 1 [.t 33], none⟩,
       ⟨some 35, .appG 35 (some (.t 33)) 1 24 false (.t 32) (.t 34), none⟩,
       ⟨none, .store 1 (.t 3) (.t 35) (some 3), none⟩] (some []))
     .skip)))))))
 (.seq
 (.ops false [
   ⟨some 36, .load 1 false (.t 3) [], none⟩,
   ⟨some 2, .mov (.t 36), none⟩] (some [2]))
 .ret))))

theorem m64r : fmatch Try.prog Try.f64 1 [.tmp 2] v64r = true := by kernel_rfl

/-- (steening/fines.matching).owed -/
def v72w : VC :=
 (.seq
 (.ops false [
   ⟨some 4, .box 4 6 (.t 1), none⟩,
   ⟨some 5, .box 5 1 (.t 2), none⟩,
   ⟨some 6, .alloc 6 [.int 0, .int 0], none⟩] (some [0, 4, 5, 6]))
 (.seq
 (.ops false [
   ⟨some 7, .alloc 7 [.int 0, .int 0], none⟩] (some [0, 4, 5, 6, 7]))
 (.seq
 (.ops false [
   ⟨some 16, .mkw 95 [.t 5, .t 4, .t 7], none⟩,
   ⟨some 8, .mov (.t 16), none⟩] (some [0, 4, 6, 7, 8]))
 (.seq
 (.seq
 (.ops false [
   ⟨some 17, .fld 4 (.t 4), none⟩,
   ⟨some 18, .load 1 false (.t 17) [], none⟩,
   ⟨some 19, .len (.t 18), none⟩,
   ⟨some 20, .mov (.k (.int 0)), none⟩] (some [0, 4, 6, 7, 8, 18, 19, 20]))
 (.block 0
  (.loop
   (.seq
   (.ops false [
     ⟨some 21, .bin .lss (.t 20) (.t 19), none⟩] (some [0, 4, 6, 7, 8, 18, 19, 20, 21]))
   (.seq
   (.cond (.t 21)
    .skip
    (.exit 0))
   (.seq
   (.block 1
    (.seq
    (.ops false [
      ⟨some 22, .mov (.t 20), none⟩,
      ⟨some 23, .idx 3 (.t 18) (.t 20), none⟩,
      ⟨some 24, .load 3 true (.t 23) [], none⟩,
      ⟨some 9, .alloc 9 [.int 0], none⟩,
      ⟨some 10, .alloc 10 [.int 0, .int 0, .sl 2 [] .full], none⟩,
      ⟨none, .store 1 (.t 9) (.t 22) (some 9), none⟩,
      ⟨none, .store 3 (.t 10) (.t 24) (some 10), none⟩] (some [0, 4, 6, 7, 8, 9, 10, 18, 19, 20]))
    (.seq
    (.ops false [
      ⟨some 25, .mov (.t 0), none⟩,
      ⟨some 26, .mkf 97 [.t 9], none⟩,
      ⟨some 27, .call 96 [.t 25, .t 26], none⟩,
      ⟨some 28, .not (.t 27), none⟩] (some [0, 4, 6, 7, 8, 10, 18, 19, 20, 28]))
    (.cond (.t 28)
     (.ops false [
       ⟨some 29, .mov (.t 8), none⟩,
       ⟨some 30, .load 3 true (.t 10) [], none⟩,
       ⟨some 31, .fld 2 (.t 10), none⟩,
       ⟨some 32, .load 1 false (.t 31) [], none⟩,
       ⟨some 33, .callw (.t 29) [.t 30, .t 32], none⟩] (some [0, 4, 6, 7, 8, 18, 19, 20]))
     .skip))))
   (.ops false [
     ⟨some 34, .bin .add (.t 20) (.k (.int 1)), none⟩,
     ⟨some 20, .mov (.t 34), none⟩] (some [0, 4, 6, 7, 8, 18, 19, 20]))))))))
 (.seq
 (.seq
 (.ops false [
   ⟨some 35, .fld 5 (.t 4), none⟩,
   ⟨some 36, .load 1 false (.t 35) [], none⟩,
   ⟨some 37, .len (.t 36), none⟩,
   ⟨some 38, .mov (.k (.int 0)), none⟩] (some [0, 4, 6, 7, 8, 36, 37, 38]))
 (.block 2
  (.loop
   (.seq
   (.ops false [
     ⟨some 39, .bin .lss (.t 38) (.t 37), none⟩] (some [0, 4, 6, 7, 8, 36, 37, 38, 39]))
   (.seq
   (.cond (.t 39)
    .skip
    (.exit 2))
   (.seq
   (.block 3
    (.seq
    (.ops false [
      ⟨some 40, .mov (.t 38), none⟩,
      ⟨some 41, .idx 3 (.t 36) (.t 38), none⟩,
      ⟨some 42, .load 3 true (.t 41) [], none⟩,
      ⟨some 11, .alloc 11 [.int 0], none⟩,
      ⟨some 12, .alloc 12 [.int 0, .int 0, .sl 2 [] .full], none⟩,
      ⟨none, .store 1 (.t 11) (.t 40) (some 11), none⟩,
      ⟨none, .store 3 (.t 12) (.t 42) (some 12), none⟩] (some [0, 4, 6, 7, 8, 11, 12, 36, 37, 38]))
    (.seq
    (.ops false [
      ⟨some 43, .mov (.t 0), none⟩,
      ⟨some 44, .mkf 99 [.t 11], none⟩,
      ⟨some 45, .call 98 [.t 43, .t 44], none⟩,
      ⟨some 13, .mov (.t 45), none⟩] (some [0, 4, 6, 7, 8, 12, 13, 36, 37, 38]))
    (.seq
    (.seq
    (.ops false [
      ⟨some 46, .mov (.t 13), none⟩,
      ⟨some 47, .bin .lss (.t 46) (.k (.int 0)), none⟩] (some [0, 4, 6, 7, 8, 12, 13, 36, 37, 38, 47]))
    (.cond (.t 47)
     (.seq
     (.ops false [
       ⟨some 48, .mov (.t 8), none⟩,
       ⟨some 49, .load 3 true (.t 12) [], none⟩,
       ⟨some 50, .fld 2 (.t 12), none⟩,
       ⟨some 51, .load 1 false (.t 50) [], none⟩,
       ⟨some 52, .callw (.t 48) [.t 49, .t 51], none⟩] (some [0, 4, 6, 7, 8, 36, 37, 38]))
     (.exit 3))
     .skip))
    (.seq
    (.ops true [
      ⟨some 54, .fld 3 (.t 4), none⟩,
      ⟨some 55, .load 1 false (.t 54) [], none⟩,
      ⟨some 56, .fld 4 (.t 4), none⟩,
      ⟨some 57, .load 1 false (.t 56) [], none⟩,
      ⟨some 58, .mov (.t 0), none⟩,
      ⟨some 59, .mov (.t 13), none⟩,
      ⟨some 60, .idx 2 (.t 58) (.t 59), none⟩,
      ⟨some 61, .fld 0 (.t 60), none⟩,
      ⟨some 62, .load 1 false (.t 61) [], none⟩,
      ⟨some 63, .idx 3 (.t 57) (.t 62), none⟩,
      ⟨some 64, .load 3 true (.t 63) [], none⟩,
      ⟨some 65, .load 3 true (.t 12) [], none⟩,
      ⟨some 66, .call 79 [.t 55, .t 64, .t 65], none⟩,
      ⟨some 53, .mov (.t 66), none⟩,
      ⟨some 67, .ext (.t 53) 0, none⟩,
      ⟨some 68, .ext (.t 53) 1, none⟩,
      ⟨some 14, .mov (.t 67), none⟩,
      ⟨some 15, .mov (.t 68), none⟩] (some [0, 4, 6, 7, 8, 12, 14, 36, 37, 38]))
    (.ops false [
      ⟨some 69, .mov (.t 8), none⟩,
      ⟨some 70, .load 3 true (.t 12) [], none⟩,
      ⟨some 71, .mov (.t 14), none⟩,
      ⟨some 72, .callw (.t 69) [.t 70, .t 71], none⟩] (some [0, 4, 6, 7, 8, 36, 37, 38])))))))
   (.ops false [
     ⟨some 73, .bin .add (.t 38) (.k (.int 1)), none⟩,
     ⟨some 38, .mov (.t 73), none⟩] (some [0, 4, 6, 7, 8, 36, 37, 38]))))))))
 (.seq
 (.ops false [
   ⟨some 74, .load 2 true (.t 7) [], none⟩,
   ⟨none, .store 2 (.t 6) (.t 74) (some 6), none⟩] (some [6]))
 .ret))))))

theorem m72w : fmatch Try.prog Try.f72 3 [.cell 6 36] v72w = true := by kernel_rfl

/-- (steening/fines.matching).owed$1 -/
def v95w : VC :=
 (.seq
 (.ops false [
   ⟨some 5, .box 1005 3 (.t 0), none⟩] (some [1, 2, 3, 4, 5]))
 (.seq
 (.ops false [
   ⟨some 8, .fld 1 (.t 5), none⟩,
   ⟨some 9, .load 1 false (.t 8) [], none⟩,
   ⟨some 10, .load 1 false (.t 2) [], none⟩,
   ⟨some 11, .bin .eql (.t 9) (.t 10), none⟩] (some [1, 3, 4, 11]))
 (.cond (.t 11)
  (.seq
  (.ops false [
    ⟨some 12, .load 6 true (.t 3) [], none⟩,
    ⟨some 13, .mov (.t 1), none⟩,
    ⟨some 14, .call 80 [.t 12, .t 13], none⟩,
    ⟨some 7, .alloc 1007 [.int 0, .int 0], none⟩,
    ⟨none, .store 2 (.t 7) (.t 14) (some 1007), none⟩] (some [4, 7]))
  (.ops false [
    ⟨some 15, .fld 0 (.t 4), none⟩,
    ⟨some 16, .load 1 false (.t 15) [], none⟩,
    ⟨some 17, .fld 0 (.t 7), none⟩,
    ⟨some 18, .load 1 false (.t 17) [], none⟩,
    ⟨some 19, .bin .add (.t 16) (.t 18), none⟩,
    ⟨some 20, .fld 1 (.t 4), none⟩,
    ⟨some 21, .load 1 false (.t 20) [], none⟩,
    ⟨some 22, .fld 1 (.t 7), none⟩,
    ⟨some 23, .load 1 false (.t 22) [], none⟩,
    ⟨some 24, .bin .add (.t 21) (.t 23), none⟩,
    ⟨some 25, .build [.int 0, .int 0] [(0, 1, .t 19), (1, 1, .t 24)], none⟩,
    ⟨none, .store 2 (.t 4) (.t 25) none, none⟩] (some [])))
  .skip)))

theorem m95w : fmatch Try.prog Try.f95 5 [] v95w = true := by kernel_rfl

end Go.Proofs.Ytemnojaoickjfaa


/- The compact code of the functions, and that it is theirs. -/
namespace Go.Proofs.Ytemnojaoickjfaa
open Go Go.V
set_option maxRecDepth 100000

/-- steening/steeningref13.CopyEntries -/
def v26s : VC :=
 (.seq
 (.ops false [
   ⟨some 2, .nils 7002 3, none⟩] (some [0]))
 (.seq
 (.ops false [
   ⟨some 3, .nilsG 1 (some (.k (.int 77))) 3 true, none⟩] (some [0, 3]))
 (.seq
 (.seq
 (.ops false [
   ⟨some 4, .mov (.k (.int 0)), none⟩] (some [0, 3, 4]))
 (.block 0
  (.loop
   (.seq
   (.seq
   (.ops false [
     ⟨some 6, .mov (.t 4), none⟩,
     ⟨some 7, .mov (.t 0), none⟩,
     ⟨some 8, .len (.t 7), none⟩,
     ⟨some 9, .bin .lss (.t 6) (.t 8), none⟩] (some [0, 3, 4, 9]))
   (.cond (.t 9)
    .skip
    (.exit 0)))
   (.seq
   (.block 1
    (.seq
    (.ops false [
      ⟨some 12, .mov (.t 0), none⟩,
      ⟨some 13, .mov (.t 4), none⟩,
      ⟨some 14, .idx 3 (.t 12) (.t 13), none⟩,
      ⟨some 15, .load 3 true (.t 14) [], none⟩,
      ⟨some 5, .alloc 7005 [.int 0, .int 0, .sl 2 [] .full], none⟩,
      ⟨none, .store 3 (.t 5) (.t 15) (some 7005), none⟩] (some [0, 3, 4, 5]))
    (.seq
    (.ops false [
      ⟨some 16, .bslice 2 [], none⟩,
      ⟨some 17, .fld 2 (.t 5), none⟩,
      ⟨some 18, .load 1 false (.t 17) [], none⟩,
      ⟨some 19, .appG 1 (some (.t 4)) 2 16 true (.t 16) (.t 18), none⟩,
      ⟨some 20, .fld 2 (.t 5), none⟩,
      ⟨none, .store 1 (.t 20) (.t 19) (some 7005), none⟩] (some [0, 3, 4, 5]))
    (.opsN false [
      ⟨some 21, .mov (.t 3), none⟩,
      ⟨some 22, .loadW 3 (.t 5) [], none⟩,
      ⟨some 23, .bsliceW 3 [.t 22], none⟩,
      ⟨some 24, .appG 1 none 3 40 true (.t 21) (.t 23), none⟩,
      ⟨some 3, .mov (.t 24), none⟩] (some [0, 3, 4])))))
   (.ops false [
     ⟨some 10, .mov (.t 4), none⟩,
     ⟨some 11, .bin .add (.t 10) (.k (.int 1)), none⟩,
     ⟨some 4, .mov (.t 11), none⟩] (some [0, 3, 4])))))))
 (.seq
 (.ops false [
   ⟨some 25, .mov (.t 3), none⟩,
   ⟨some 2, .mov (.t 25), none⟩] (some [2]))
 .ret))))

theorem m26s : fmatch Try.prog Try.f26 1 [.tmp 2] v26s = true := by kernel_rfl

/-- steening/steeningref13.Copy -/
def v16p (bs : List (Nat × Nat × BX)) : VC :=
 (.seq
 (.ops false [
   ⟨some 1, .box 5001 6 (.t 0), none⟩,
   ⟨some 2, .alloc 5002 [.int 0, .int 0, .int 0, .int 0, .sl 3 [] .full, .sl 3 [] .full], none⟩] (some [1, 2]))
 (.seq
 (.ops false [
   ⟨some 4, .load 6 true (.t 1) [], none⟩,
   ⟨some 3, .alloc 5003 [.int 0, .int 0, .int 0, .int 0, .sl 3 [] .full, .sl 3 [] .full], none⟩,
   ⟨none, .store 6 (.t 3) (.t 4) (some 5003), none⟩] (some [1, 2, 3]))
 (.seq
 (.ops true [
   ⟨some 5, .fld 4 (.t 1), none⟩,
   ⟨some 6, .load 1 false (.t 5) [1048576], none⟩,
   ⟨some 7, .calls 26 1 [.t 6] bs, none⟩,
   ⟨some 8, .fld 5 (.t 1), none⟩,
   ⟨some 9, .load 1 false (.t 8) [1048576], none⟩,
   ⟨some 10, .call 26 [.t 9], none⟩,
   ⟨some 11, .fld 4 (.t 3), none⟩,
   ⟨none, .store 1 (.t 11) (.t 7) (some 5003), none⟩,
   ⟨some 12, .fld 5 (.t 3), none⟩,
   ⟨none, .store 1 (.t 12) (.t 10) (some 5003), none⟩] (some [2, 3]))
 (.seq
 (.ops false [
   ⟨some 13, .loadW 6 (.t 3) [], none⟩,
   ⟨none, .store 6 (.t 2) (.t 13) (some 5002), none⟩] (some [2]))
 .ret))))

theorem m16p (bs : List (Nat × Nat × BX)) : fmatch Try.prog Try.f16 1 [.cell 2 24] (v16p bs) = true := by kernel_rfl

/-- steening/steeningref13.Copy -/
def v16q (bs : List (Nat × Nat × BX)) : VC :=
 (.seq
 (.ops false [
   ⟨some 1, .box 5001 6 (.t 0), none⟩,
   ⟨some 2, .alloc 5002 [.int 0, .int 0, .int 0, .int 0, .sl 3 [] .full, .sl 3 [] .full], none⟩] (some [1, 2]))
 (.seq
 (.ops false [
   ⟨some 4, .load 6 true (.t 1) [], none⟩,
   ⟨some 3, .alloc 5003 [.int 0, .int 0, .int 0, .int 0, .sl 3 [] .full, .sl 3 [] .full], none⟩,
   ⟨none, .store 6 (.t 3) (.t 4) (some 5003), none⟩] (some [1, 2, 3]))
 (.seq
 (.ops true [
   ⟨some 5, .fld 4 (.t 1), none⟩,
   ⟨some 6, .load 1 false (.t 5) [1048576], none⟩,
   ⟨some 7, .call 26 [.t 6], none⟩,
   ⟨some 8, .fld 5 (.t 1), none⟩,
   ⟨some 9, .load 1 false (.t 8) [1048576], none⟩,
   ⟨some 10, .calls 26 1 [.t 9] bs, none⟩,
   ⟨some 11, .fld 4 (.t 3), none⟩,
   ⟨none, .store 1 (.t 11) (.t 7) (some 5003), none⟩,
   ⟨some 12, .fld 5 (.t 3), none⟩,
   ⟨none, .store 1 (.t 12) (.t 10) (some 5003), none⟩] (some [2, 3]))
 (.seq
 (.ops false [
   ⟨some 13, .loadW 6 (.t 3) [], none⟩,
   ⟨none, .store 6 (.t 2) (.t 13) (some 5002), none⟩] (some [2]))
 .ret))))

theorem m16q (bs : List (Nat × Nat × BX)) : fmatch Try.prog Try.f16 1 [.cell 2 24] (v16q bs) = true := by kernel_rfl

/-- steening/steeninglaw13.FinesClear -/
def v8p : VC :=
 (.seq
 (.ops false [
   ⟨some 2, .box 2 6 (.t 0), none⟩,
   ⟨some 3, .box 3 5 (.t 1), none⟩,
   ⟨some 4, .mov (.k (.bool false)), none⟩] (some [2, 3]))
 (.seq
 (.seq
 (.ops true [
   ⟨some 20, .load 6 true (.t 2) [], none⟩,
   ⟨some 21, .call 22 [.t 20], none⟩,
   ⟨some 22, .not (.t 21), none⟩,
   ⟨some 23, .mov (.t 22), none⟩,
   ⟨some 24, .fld 0 (.t 3), some (23, false)⟩,
   ⟨some 25, .load 1 false (.t 24) [], some (23, false)⟩,
   ⟨some 26, .call 38 [.t 25], some (23, false)⟩,
   ⟨some 27, .not (.t 26), some (23, false)⟩,
   ⟨some 28, .pick (.t 23) (.k (.bool true)) (.t 27), none⟩,
   ⟨some 29, .mov (.t 28), none⟩,
   ⟨some 30, .fld 1 (.t 3), some (29, false)⟩,
   ⟨some 31, .load 1 false (.t 30) [], some (29, false)⟩,
   ⟨some 32, .load 6 true (.t 2) [], some (29, false)⟩,
   ⟨some 33, .fld 0 (.t 3), some (29, false)⟩,
   ⟨some 34, .load 1 false (.t 33) [], some (29, false)⟩,
   ⟨some 35, .call 39 [.t 32, .t 34], some (29, false)⟩,
   ⟨some 36, .len (.t 35), some (29, false)⟩,
   ⟨some 37, .bin .sub (.t 36) (.k (.int 1)), some (29, false)⟩,
   ⟨some 38, .call 33 [.t 31, .k (.int 0), .t 37], some (29, false)⟩,
   ⟨some 39, .not (.t 38), some (29, false)⟩,
   ⟨some 40, .pick (.t 29) (.k (.bool true)) (.t 39), none⟩,
   ⟨some 41, .mov (.t 40), none⟩,
   ⟨some 42, .fld 2 (.t 3), some (41, false)⟩,
   ⟨some 43, .load 1 false (.t 42) [], some (41, false)⟩,
   ⟨some 44, .fld 1 (.t 2), some (41, false)⟩,
   ⟨some 45, .load 1 false (.t 44) [], some (41, false)⟩,
   ⟨some 46, .bin .sub (.t 45) (.k (.int 1)), some (41, false)⟩,
   ⟨some 47, .call 33 [.t 43, .k (.int 0), .t 46], some (41, false)⟩,
   ⟨some 48, .not (.t 47), some (41, false)⟩,
   ⟨some 49, .pick (.t 41) (.k (.bool true)) (.t 48), none⟩,
   ⟨some 50, .mov (.t 49), none⟩,
   ⟨some 51, .fld 3 (.t 3), some (50, false)⟩,
   ⟨some 52, .fld 0 (.t 51), some (50, false)⟩,
   ⟨some 53, .load 1 false (.t 52) [], some (50, false)⟩,
   ⟨some 54, .fld 3 (.t 3), some (50, false)⟩,
   ⟨some 55, .fld 1 (.t 54), some (50, false)⟩,
   ⟨some 56, .load 1 false (.t 55) [], some (50, false)⟩,
   ⟨some 57, .bin .gtr (.t 53) (.t 56), some (50, false)⟩,
   ⟨some 58, .pick (.t 50) (.k (.bool true)) (.t 57), none⟩,
   ⟨some 59, .mov (.t 58), none⟩,
   ⟨some 60, .fld 3 (.t 3), some (59, false)⟩,
   ⟨some 61, .load 2 true (.t 60) [], some (59, false)⟩,
   ⟨some 62, .load 6 true (.t 2) [], some (59, false)⟩,
   ⟨some 63, .fld 0 (.t 3), some (59, false)⟩,
   ⟨some 64, .load 1 false (.t 63) [], some (59, false)⟩,
   ⟨some 65, .call 39 [.t 62, .t 64], some (59, false)⟩,
   ⟨some 66, .fld 1 (.t 3), some (59, false)⟩,
   ⟨some 67, .load 1 false (.t 66) [], some (59, false)⟩,
   ⟨some 68, .idx 3 (.t 65) (.t 67), some (59, false)⟩,
   ⟨some 69, .fld 2 (.t 68), some (59, false)⟩,
   ⟨some 70, .load 1 false (.t 69) [], some (59, false)⟩,
   ⟨some 71, .fld 2 (.t 3), some (59, false)⟩,
   ⟨some 72, .load 1 false (.t 71) [], some (59, false)⟩,
   ⟨some 73, .idx 2 (.t 70) (.t 72), some (59, false)⟩,
   ⟨some 74, .load 2 true (.t 73) [], some (59, false)⟩,
   ⟨some 75, .call 40 [.t 61, .t 74], some (59, false)⟩,
   ⟨some 76, .not (.t 75), some (59, false)⟩,
   ⟨some 77, .pick (.t 59) (.k (.bool true)) (.t 76), none⟩] (some [2, 3, 77]))
 (.cond (.t 77)
  (.seq
  (.ops false [
    ⟨some 78, .call 15 [], none⟩,
    ⟨some 4, .mov (.t 78), none⟩] (some [4]))
  .ret)
  .skip))
 (.seq
 (.ops false [
   ⟨some 79, .load 6 true (.t 2) [], none⟩,
   ⟨some 80, .calli 16 [.t 79], none⟩,
   ⟨some 5, .alloc 5 [.int 0, .int 0, .int 0, .int 0, .sl 3 [] .full, .sl 3 [] .full], none⟩,
   ⟨none, .store 6 (.t 5) (.t 80) (some 5), none⟩] (some [2, 3, 5]))
 (.seq
 (.ops true [
   ⟨some 81, .loadW 6 (.t 5) [], none⟩,
   ⟨some 82, .fld 0 (.t 3), none⟩,
   ⟨some 83, .load 1 false (.t 82) [], none⟩,
   ⟨some 84, .callt 39 4 [.t 81, .t 83], none⟩,
   ⟨some 85, .fld 1 (.t 3), none⟩,
   ⟨some 86, .load 1 false (.t 85) [], none⟩,
   ⟨some 87, .idx 3 (.t 84) (.t 86), none⟩,
   ⟨some 88, .fld 2 (.t 87), none⟩,
   ⟨some 89, .load 1 false (.t 88) [], none⟩,
   ⟨some 90, .fld 2 (.t 3), none⟩,
   ⟨some 91, .load 1 false (.t 90) [], none⟩,
   ⟨some 92, .fld 3 (.t 3), none⟩,
   ⟨some 93, .load 2 true (.t 92) [], none⟩,
   ⟨some 94, .idx 2 (.t 89) (.t 91), none⟩,
   ⟨none, .store 2 (.t 94) (.t 93) none, none⟩] (some [2, 5]))
 (.seq
 (.opsN false [
   ⟨some 96, .load 6 true (.t 2) [], none⟩,
   ⟨some 97, .call 23 [.t 96], none⟩,
   ⟨some 95, .mov (.t 97), none⟩,
   ⟨some 98, .ext (.t 95) 0, none⟩,
   ⟨some 99, .ext (.t 95) 1, none⟩,
   ⟨some 6, .mov (.t 98), none⟩,
   ⟨some 7, .mov (.t 99), none⟩] (some [2, 5, 6, 7]))
 (.seq
 (.ops false [
   ⟨some 101, .load 6 true (.t 5) [], none⟩,
   ⟨some 102, .call 23 [.t 101], none⟩,
   ⟨some 100, .mov (.t 102), none⟩,
   ⟨some 103, .ext (.t 100) 0, none⟩,
   ⟨some 104, .ext (.t 100) 1, none⟩,
   ⟨some 8, .mov (.t 103), none⟩,
   ⟨some 9, .mov (.t 104), none⟩] (some [2, 5, 6, 7, 8, 9]))
 (.seq
 (.seq
 (.ops false [
   ⟨some 105, .mov (.t 7), none⟩,
   ⟨some 106, .not (.t 105), none⟩,
   ⟨some 107, .mov (.t 106), none⟩,
   ⟨some 108, .mov (.t 9), some (107, false)⟩,
   ⟨some 109, .not (.t 108), some (107, false)⟩,
   ⟨some 110, .pick (.t 107) (.k (.bool true)) (.t 109), none⟩,
   ⟨some 111, .mov (.t 110), none⟩,
   ⟨some 112, .mov (.t 8), some (111, false)⟩,
   ⟨some 113, .mov (.t 6), some (111, false)⟩,
   ⟨some 114, .bin .lss (.t 112) (.t 113), some (111, false)⟩,
   ⟨some 115, .pick (.t 111) (.k (.bool true)) (.t 114), none⟩] (some [2, 5, 115]))
 (.cond (.t 115)
  (.seq
  (.ops false [
    ⟨some 4, .mov (.k (.bool false)), none⟩] (some [4]))
  .ret)
  .skip))
 (.seq
 (.seq
 (.ops false [
   ⟨some 10, .mov (.k (.int 0)), none⟩] (some [2, 5, 10]))
 (.block 0
  (.loop
   (.seq
   (.seq
   (.ops false [
     ⟨some 116, .mov (.t 10), none⟩,
     ⟨some 117, .fld 4 (.t 2), none⟩,
     ⟨some 118, .load 1 false (.t 117) [], none⟩,
     ⟨some 119, .len (.t 118), none⟩,
     ⟨some 120, .bin .lss (.t 116) (.t 119), none⟩] (some [2, 5, 10, 120]))
   (.cond (.t 120)
    .skip
    (.exit 0)))
   (.seq
   (.block 1
    (.seq
    (.ops false [
      ⟨some 11, .mov (.k (.int 0)), none⟩] (some [2, 5, 10, 11]))
    (.block 2
     (.loop
      (.seq
      (.seq
      (.ops false [
        ⟨some 123, .mov (.t 11), none⟩,
        ⟨some 124, .fld 5 (.t 2), none⟩,
        ⟨some 125, .load 1 false (.t 124) [], none⟩,
        ⟨some 126, .len (.t 125), none⟩,
        ⟨some 127, .bin .lss (.t 123) (.t 126), none⟩] (some [2, 5, 10, 11, 127]))
      (.cond (.t 127)
       .skip
       (.exit 2)))
      (.seq
      (.block 3
       (.seq
       (.ops false [
         ⟨some 131, .load 6 true (.t 2) [], none⟩,
         ⟨some 132, .mov (.t 10), none⟩,
         ⟨some 133, .mov (.t 11), none⟩,
         ⟨some 134, .call 37 [.t 131, .t 132, .t 133], none⟩,
         ⟨some 130, .mov (.t 134), none⟩,
         ⟨some 135, .ext (.t 130) 0, none⟩,
         ⟨some 136, .ext (.t 130) 1, none⟩,
         ⟨some 12, .mov (.t 135), none⟩,
         ⟨some 13, .mov (.t 136), none⟩] (some [2, 5, 10, 11, 12, 13]))
       (.seq
       (.ops false [
         ⟨some 138, .load 6 true (.t 5) [], none⟩,
         ⟨some 139, .mov (.t 10), none⟩,
         ⟨some 140, .mov (.t 11), none⟩,
         ⟨some 141, .call 37 [.t 138, .t 139, .t 140], none⟩,
         ⟨some 137, .mov (.t 141), none⟩,
         ⟨some 142, .ext (.t 137) 0, none⟩,
         ⟨some 143, .ext (.t 137) 1, none⟩,
         ⟨some 14, .mov (.t 142), none⟩,
         ⟨some 15, .mov (.t 143), none⟩] (some [2, 5, 10, 11, 12, 13, 14, 15]))
       (.seq
       (.seq
       (.ops false [
         ⟨some 144, .mov (.t 13), none⟩,
         ⟨some 145, .bin .neq (.t 144) (.k (.int 0)), none⟩,
         ⟨some 146, .mov (.t 145), none⟩,
         ⟨some 147, .mov (.t 15), some (146, false)⟩,
         ⟨some 148, .bin .neq (.t 147) (.k (.int 0)), some (146, false)⟩,
         ⟨some 149, .pick (.t 146) (.k (.bool true)) (.t 148), none⟩,
         ⟨some 150, .mov (.t 149), none⟩,
         ⟨some 151, .mov (.t 14), some (150, false)⟩,
         ⟨some 152, .mov (.t 151), some (150, false)⟩,
         ⟨some 153, .mov (.t 12), some (152, true)⟩,
         ⟨some 154, .not (.t 153), some (152, true)⟩,
         ⟨some 155, .pick (.t 152) (.t 154) (.k (.bool false)), some (150, false)⟩,
         ⟨some 156, .pick (.t 150) (.k (.bool true)) (.t 155), none⟩] (some [2, 5, 10, 11, 14, 156]))
       (.cond (.t 156)
        (.seq
        (.ops false [
          ⟨some 4, .mov (.k (.bool false)), none⟩] (some [4]))
        .ret)
        .skip))
       (.seq
       (.seq
       (.ops false [
         ⟨some 157, .mov (.t 14), none⟩,
         ⟨some 158, .not (.t 157), none⟩] (some [2, 5, 10, 11, 158]))
       (.cond (.t 158)
        (.exit 3)
        .skip))
       (.seq
       (.ops false [
         ⟨some 160, .load 6 true (.t 2) [], none⟩,
         ⟨some 161, .mov (.t 10), none⟩,
         ⟨some 162, .mov (.t 11), none⟩,
         ⟨some 163, .call 41 [.t 160, .t 161, .t 162], none⟩,
         ⟨some 159, .mov (.t 163), none⟩,
         ⟨some 164, .ext (.t 159) 0, none⟩,
         ⟨some 165, .ext (.t 159) 1, none⟩,
         ⟨some 16, .alloc 16 [.int 0, .int 0], none⟩,
         ⟨none, .store 2 (.t 16) (.t 164) (some 16), none⟩,
         ⟨some 17, .mov (.t 165), none⟩] (some [2, 5, 10, 11, 16, 17]))
       (.seq
       (.ops false [
         ⟨some 167, .load 6 true (.t 5) [], none⟩,
         ⟨some 168, .mov (.t 10), none⟩,
         ⟨some 169, .mov (.t 11), none⟩,
         ⟨some 170, .call 41 [.t 167, .t 168, .t 169], none⟩,
         ⟨some 166, .mov (.t 170), none⟩,
         ⟨some 171, .ext (.t 166) 0, none⟩,
         ⟨some 172, .ext (.t 166) 1, none⟩,
         ⟨some 18, .alloc 18 [.int 0, .int 0], none⟩,
         ⟨none, .store 2 (.t 18) (.t 171) (some 18), none⟩,
         ⟨some 19, .mov (.t 172), none⟩] (some [2, 5, 10, 11, 16, 17, 18, 19]))
       (.seq
       (.ops false [
         ⟨some 173, .mov (.t 17), none⟩,
         ⟨some 174, .bin .neq (.t 173) (.k (.int 0)), none⟩,
         ⟨some 175, .mov (.t 174), none⟩,
         ⟨some 176, .mov (.t 19), some (175, false)⟩,
         ⟨some 177, .bin .neq (.t 176) (.k (.int 0)), some (175, false)⟩,
         ⟨some 178, .pick (.t 175) (.k (.bool true)) (.t 177), none⟩,
         ⟨some 179, .mov (.t 178), none⟩,
         ⟨some 180, .load 2 true (.t 18) [], some (179, false)⟩,
         ⟨some 181, .load 2 true (.t 16) [], some (179, false)⟩,
         ⟨some 182, .call 40 [.t 180, .t 181], some (179, false)⟩,
         ⟨some 183, .not (.t 182), some (179, false)⟩,
         ⟨some 184, .pick (.t 179) (.k (.bool true)) (.t 183), none⟩] (some [2, 5, 10, 11, 184]))
       (.cond (.t 184)
        (.seq
        (.ops false [
          ⟨some 4, .mov (.k (.bool false)), none⟩] (some [4]))
        .ret)
        .skip)))))))))
      (.ops false [
        ⟨some 128, .mov (.t 11), none⟩,
        ⟨some 129, .bin .add (.t 128) (.k (.int 1)), none⟩,
        ⟨some 11, .mov (.t 129), none⟩] (some [2, 5, 10, 11]))))))))
   (.ops false [
     ⟨some 121, .mov (.t 10), none⟩,
     ⟨some 122, .bin .add (.t 121) (.k (.int 1)), none⟩,
     ⟨some 10, .mov (.t 122), none⟩] (some [2, 5, 10])))))))
 (.seq
 (.ops false [
   ⟨some 185, .call 15 [], none⟩,
   ⟨some 4, .mov (.t 185), none⟩] (some [4]))
 .ret)))))))))

theorem m8p : fmatch Try.prog Try.f8 2 [.tmp 4] v8p = true := by kernel_rfl

/-- steening/steeninglaw13.FinesClear -/
def v8q : VC :=
 (.seq
 (.ops false [
   ⟨some 2, .box 2 6 (.t 0), none⟩,
   ⟨some 3, .box 3 5 (.t 1), none⟩,
   ⟨some 4, .mov (.k (.bool false)), none⟩] (some [2, 3]))
 (.seq
 (.seq
 (.ops true [
   ⟨some 20, .load 6 true (.t 2) [], none⟩,
   ⟨some 21, .call 22 [.t 20], none⟩,
   ⟨some 22, .not (.t 21), none⟩,
   ⟨some 23, .mov (.t 22), none⟩,
   ⟨some 24, .fld 0 (.t 3), some (23, false)⟩,
   ⟨some 25, .load 1 false (.t 24) [], some (23, false)⟩,
   ⟨some 26, .call 38 [.t 25], some (23, false)⟩,
   ⟨some 27, .not (.t 26), some (23, false)⟩,
   ⟨some 28, .pick (.t 23) (.k (.bool true)) (.t 27), none⟩,
   ⟨some 29, .mov (.t 28), none⟩,
   ⟨some 30, .fld 1 (.t 3), some (29, false)⟩,
   ⟨some 31, .load 1 false (.t 30) [], some (29, false)⟩,
   ⟨some 32, .load 6 true (.t 2) [], some (29, false)⟩,
   ⟨some 33, .fld 0 (.t 3), some (29, false)⟩,
   ⟨some 34, .load 1 false (.t 33) [], some (29, false)⟩,
   ⟨some 35, .call 39 [.t 32, .t 34], some (29, false)⟩,
   ⟨some 36, .len (.t 35), some (29, false)⟩,
   ⟨some 37, .bin .sub (.t 36) (.k (.int 1)), some (29, false)⟩,
   ⟨some 38, .call 33 [.t 31, .k (.int 0), .t 37], some (29, false)⟩,
   ⟨some 39, .not (.t 38), some (29, false)⟩,
   ⟨some 40, .pick (.t 29) (.k (.bool true)) (.t 39), none⟩,
   ⟨some 41, .mov (.t 40), none⟩,
   ⟨some 42, .fld 2 (.t 3), some (41, false)⟩,
   ⟨some 43, .load 1 false (.t 42) [], some (41, false)⟩,
   ⟨some 44, .fld 1 (.t 2), some (41, false)⟩,
   ⟨some 45, .load 1 false (.t 44) [], some (41, false)⟩,
   ⟨some 46, .bin .sub (.t 45) (.k (.int 1)), some (41, false)⟩,
   ⟨some 47, .call 33 [.t 43, .k (.int 0), .t 46], some (41, false)⟩,
   ⟨some 48, .not (.t 47), some (41, false)⟩,
   ⟨some 49, .pick (.t 41) (.k (.bool true)) (.t 48), none⟩,
   ⟨some 50, .mov (.t 49), none⟩,
   ⟨some 51, .fld 3 (.t 3), some (50, false)⟩,
   ⟨some 52, .fld 0 (.t 51), some (50, false)⟩,
   ⟨some 53, .load 1 false (.t 52) [], some (50, false)⟩,
   ⟨some 54, .fld 3 (.t 3), some (50, false)⟩,
   ⟨some 55, .fld 1 (.t 54), some (50, false)⟩,
   ⟨some 56, .load 1 false (.t 55) [], some (50, false)⟩,
   ⟨some 57, .bin .gtr (.t 53) (.t 56), some (50, false)⟩,
   ⟨some 58, .pick (.t 50) (.k (.bool true)) (.t 57), none⟩,
   ⟨some 59, .mov (.t 58), none⟩,
   ⟨some 60, .fld 3 (.t 3), some (59, false)⟩,
   ⟨some 61, .load 2 true (.t 60) [], some (59, false)⟩,
   ⟨some 62, .load 6 true (.t 2) [], some (59, false)⟩,
   ⟨some 63, .fld 0 (.t 3), some (59, false)⟩,
   ⟨some 64, .load 1 false (.t 63) [], some (59, false)⟩,
   ⟨some 65, .call 39 [.t 62, .t 64], some (59, false)⟩,
   ⟨some 66, .fld 1 (.t 3), some (59, false)⟩,
   ⟨some 67, .load 1 false (.t 66) [], some (59, false)⟩,
   ⟨some 68, .idx 3 (.t 65) (.t 67), some (59, false)⟩,
   ⟨some 69, .fld 2 (.t 68), some (59, false)⟩,
   ⟨some 70, .load 1 false (.t 69) [], some (59, false)⟩,
   ⟨some 71, .fld 2 (.t 3), some (59, false)⟩,
   ⟨some 72, .load 1 false (.t 71) [], some (59, false)⟩,
   ⟨some 73, .idx 2 (.t 70) (.t 72), some (59, false)⟩,
   ⟨some 74, .load 2 true (.t 73) [], some (59, false)⟩,
   ⟨some 75, .call 40 [.t 61, .t 74], some (59, false)⟩,
   ⟨some 76, .not (.t 75), some (59, false)⟩,
   ⟨some 77, .pick (.t 59) (.k (.bool true)) (.t 76), none⟩] (some [2, 3, 77]))
 (.cond (.t 77)
  (.seq
  (.ops false [
    ⟨some 78, .call 15 [], none⟩,
    ⟨some 4, .mov (.t 78), none⟩] (some [4]))
  .ret)
  .skip))
 (.seq
 (.ops false [
   ⟨some 79, .load 6 true (.t 2) [], none⟩,
   ⟨some 80, .calli 16 [.t 79], none⟩,
   ⟨some 5, .alloc 5 [.int 0, .int 0, .int 0, .int 0, .sl 3 [] .full, .sl 3 [] .full], none⟩,
   ⟨none, .store 6 (.t 5) (.t 80) (some 5), none⟩] (some [2, 3, 5]))
 (.seq
 (.ops true [
   ⟨some 81, .loadW 6 (.t 5) [], none⟩,
   ⟨some 82, .fld 0 (.t 3), none⟩,
   ⟨some 83, .load 1 false (.t 82) [], none⟩,
   ⟨some 84, .callt 39 5 [.t 81, .t 83], none⟩,
   ⟨some 85, .fld 1 (.t 3), none⟩,
   ⟨some 86, .load 1 false (.t 85) [], none⟩,
   ⟨some 87, .idx 3 (.t 84) (.t 86), none⟩,
   ⟨some 88, .fld 2 (.t 87), none⟩,
   ⟨some 89, .load 1 false (.t 88) [], none⟩,
   ⟨some 90, .fld 2 (.t 3), none⟩,
   ⟨some 91, .load 1 false (.t 90) [], none⟩,
   ⟨some 92, .fld 3 (.t 3), none⟩,
   ⟨some 93, .load 2 true (.t 92) [], none⟩,
   ⟨some 94, .idx 2 (.t 89) (.t 91), none⟩,
   ⟨none, .store 2 (.t 94) (.t 93) none, none⟩] (some [2, 5]))
 (.seq
 (.opsN false [
   ⟨some 96, .load 6 true (.t 2) [], none⟩,
   ⟨some 97, .call 23 [.t 96], none⟩,
   ⟨some 95, .mov (.t 97), none⟩,
   ⟨some 98, .ext (.t 95) 0, none⟩,
   ⟨some 99, .ext (.t 95) 1, none⟩,
   ⟨some 6, .mov (.t 98), none⟩,
   ⟨some 7, .mov (.t 99), none⟩] (some [2, 5, 6, 7]))
 (.seq
 (.ops false [
   ⟨some 101, .load 6 true (.t 5) [], none⟩,
   ⟨some 102, .call 23 [.t 101], none⟩,
   ⟨some 100, .mov (.t 102), none⟩,
   ⟨some 103, .ext (.t 100) 0, none⟩,
   ⟨some 104, .ext (.t 100) 1, none⟩,
   ⟨some 8, .mov (.t 103), none⟩,
   ⟨some 9, .mov (.t 104), none⟩] (some [2, 5, 6, 7, 8, 9]))
 (.seq
 (.seq
 (.ops false [
   ⟨some 105, .mov (.t 7), none⟩,
   ⟨some 106, .not (.t 105), none⟩,
   ⟨some 107, .mov (.t 106), none⟩,
   ⟨some 108, .mov (.t 9), some (107, false)⟩,
   ⟨some 109, .not (.t 108), some (107, false)⟩,
   ⟨some 110, .pick (.t 107) (.k (.bool true)) (.t 109), none⟩,
   ⟨some 111, .mov (.t 110), none⟩,
   ⟨some 112, .mov (.t 8), some (111, false)⟩,
   ⟨some 113, .mov (.t 6), some (111, false)⟩,
   ⟨some 114, .bin .lss (.t 112) (.t 113), some (111, false)⟩,
   ⟨some 115, .pick (.t 111) (.k (.bool true)) (.t 114), none⟩] (some [2, 5, 115]))
 (.cond (.t 115)
  (.seq
  (.ops false [
    ⟨some 4, .mov (.k (.bool false)), none⟩] (some [4]))
  .ret)
  .skip))
 (.seq
 (.seq
 (.ops false [
   ⟨some 10, .mov (.k (.int 0)), none⟩] (some [2, 5, 10]))
 (.block 0
  (.loop
   (.seq
   (.seq
   (.ops false [
     ⟨some 116, .mov (.t 10), none⟩,
     ⟨some 117, .fld 4 (.t 2), none⟩,
     ⟨some 118, .load 1 false (.t 117) [], none⟩,
     ⟨some 119, .len (.t 118), none⟩,
     ⟨some 120, .bin .lss (.t 116) (.t 119), none⟩] (some [2, 5, 10, 120]))
   (.cond (.t 120)
    .skip
    (.exit 0)))
   (.seq
   (.block 1
    (.seq
    (.ops false [
      ⟨some 11, .mov (.k (.int 0)), none⟩] (some [2, 5, 10, 11]))
    (.block 2
     (.loop
      (.seq
      (.seq
      (.ops false [
        ⟨some 123, .mov (.t 11), none⟩,
        ⟨some 124, .fld 5 (.t 2), none⟩,
        ⟨some 125, .load 1 false (.t 124) [], none⟩,
        ⟨some 126, .len (.t 125), none⟩,
        ⟨some 127, .bin .lss (.t 123) (.t 126), none⟩] (some [2, 5, 10, 11, 127]))
      (.cond (.t 127)
       .skip
       (.exit 2)))
      (.seq
      (.block 3
       (.seq
       (.ops false [
         ⟨some 131, .load 6 true (.t 2) [], none⟩,
         ⟨some 132, .mov (.t 10), none⟩,
         ⟨some 133, .mov (.t 11), none⟩,
         ⟨some 134, .call 37 [.t 131, .t 132, .t 133], none⟩,
         ⟨some 130, .mov (.t 134), none⟩,
         ⟨some 135, .ext (.t 130) 0, none⟩,
         ⟨some 136, .ext (.t 130) 1, none⟩,
         ⟨some 12, .mov (.t 135), none⟩,
         ⟨some 13, .mov (.t 136), none⟩] (some [2, 5, 10, 11, 12, 13]))
       (.seq
       (.ops false [
         ⟨some 138, .load 6 true (.t 5) [], none⟩,
         ⟨some 139, .mov (.t 10), none⟩,
         ⟨some 140, .mov (.t 11), none⟩,
         ⟨some 141, .call 37 [.t 138, .t 139, .t 140], none⟩,
         ⟨some 137, .mov (.t 141), none⟩,
         ⟨some 142, .ext (.t 137) 0, none⟩,
         ⟨some 143, .ext (.t 137) 1, none⟩,
         ⟨some 14, .mov (.t 142), none⟩,
         ⟨some 15, .mov (.t 143), none⟩] (some [2, 5, 10, 11, 12, 13, 14, 15]))
       (.seq
       (.seq
       (.ops false [
         ⟨some 144, .mov (.t 13), none⟩,
         ⟨some 145, .bin .neq (.t 144) (.k (.int 0)), none⟩,
         ⟨some 146, .mov (.t 145), none⟩,
         ⟨some 147, .mov (.t 15), some (146, false)⟩,
         ⟨some 148, .bin .neq (.t 147) (.k (.int 0)), some (146, false)⟩,
         ⟨some 149, .pick (.t 146) (.k (.bool true)) (.t 148), none⟩,
         ⟨some 150, .mov (.t 149), none⟩,
         ⟨some 151, .mov (.t 14), some (150, false)⟩,
         ⟨some 152, .mov (.t 151), some (150, false)⟩,
         ⟨some 153, .mov (.t 12), some (152, true)⟩,
         ⟨some 154, .not (.t 153), some (152, true)⟩,
         ⟨some 155, .pick (.t 152) (.t 154) (.k (.bool false)), some (150, false)⟩,
         ⟨some 156, .pick (.t 150) (.k (.bool true)) (.t 155), none⟩] (some [2, 5, 10, 11, 14, 156]))
       (.cond (.t 156)
        (.seq
        (.ops false [
          ⟨some 4, .mov (.k (.bool false)), none⟩] (some [4]))
        .ret)
        .skip))
       (.seq
       (.seq
       (.ops false [
         ⟨some 157, .mov (.t 14), none⟩,
         ⟨some 158, .not (.t 157), none⟩] (some [2, 5, 10, 11, 158]))
       (.cond (.t 158)
        (.exit 3)
        .skip))
       (.seq
       (.ops false [
         ⟨some 160, .load 6 true (.t 2) [], none⟩,
         ⟨some 161, .mov (.t 10), none⟩,
         ⟨some 162, .mov (.t 11), none⟩,
         ⟨some 163, .call 41 [.t 160, .t 161, .t 162], none⟩,
         ⟨some 159, .mov (.t 163), none⟩,
         ⟨some 164, .ext (.t 159) 0, none⟩,
         ⟨some 165, .ext (.t 159) 1, none⟩,
         ⟨some 16, .alloc 16 [.int 0, .int 0], none⟩,
         ⟨none, .store 2 (.t 16) (.t 164) (some 16), none⟩,
         ⟨some 17, .mov (.t 165), none⟩] (some [2, 5, 10, 11, 16, 17]))
       (.seq
       (.ops false [
         ⟨some 167, .load 6 true (.t 5) [], none⟩,
         ⟨some 168, .mov (.t 10), none⟩,
         ⟨some 169, .mov (.t 11), none⟩,
         ⟨some 170, .call 41 [.t 167, .t 168, .t 169], none⟩,
         ⟨some 166, .mov (.t 170), none⟩,
         ⟨some 171, .ext (.t 166) 0, none⟩,
         ⟨some 172, .ext (.t 166) 1, none⟩,
         ⟨some 18, .alloc 18 [.int 0, .int 0], none⟩,
         ⟨none, .store 2 (.t 18) (.t 171) (some 18), none⟩,
         ⟨some 19, .mov (.t 172), none⟩] (some [2, 5, 10, 11, 16, 17, 18, 19]))
       (.seq
       (.ops false [
         ⟨some 173, .mov (.t 17), none⟩,
         ⟨some 174, .bin .neq (.t 173) (.k (.int 0)), none⟩,
         ⟨some 175, .mov (.t 174), none⟩,
         ⟨some 176, .mov (.t 19), some (175, false)⟩,
         ⟨some 177, .bin .neq (.t 176) (.k (.int 0)), some (175, false)⟩,
         ⟨some 178, .pick (.t 175) (.k (.bool true)) (.t 177), none⟩,
         ⟨some 179, .mov (.t 178), none⟩,
         ⟨some 180, .load 2 true (.t 18) [], some (179, false)⟩,
         ⟨some 181, .load 2 true (.t 16) [], some (179, false)⟩,
         ⟨some 182, .call 40 [.t 180, .t 181], some (179, false)⟩,
         ⟨some 183, .not (.t 182), some (179, false)⟩,
         ⟨some 184, .pick (.t 179) (.k (.bool true)) (.t 183), none⟩] (some [2, 5, 10, 11, 184]))
       (.cond (.t 184)
        (.seq
        (.ops false [
          ⟨some 4, .mov (.k (.bool false)), none⟩] (some [4]))
        .ret)
        .skip)))))))))
      (.ops false [
        ⟨some 128, .mov (.t 11), none⟩,
        ⟨some 129, .bin .add (.t 128) (.k (.int 1)), none⟩,
        ⟨some 11, .mov (.t 129), none⟩] (some [2, 5, 10, 11]))))))))
   (.ops false [
     ⟨some 121, .mov (.t 10), none⟩,
     ⟨some 122, .bin .add (.t 121) (.k (.int 1)), none⟩,
     ⟨some 10, .mov (.t 122), none⟩] (some [2, 5, 10])))))))
 (.seq
 (.ops false [
   ⟨some 185, .call 15 [], none⟩,
   ⟨some 4, .mov (.t 185), none⟩] (some [4]))
 .ret)))))))))

theorem m8q : fmatch Try.prog Try.f8 2 [.tmp 4] v8q = true := by kernel_rfl

end Go.Proofs.Ytemnojaoickjfaa


/- The compact code of the functions, and that it is theirs. -/
namespace Go.Proofs.Ytemnojaoickjfaa
open Go Go.V
set_option maxRecDepth 100000

/-- steening/fines.days -/
def v65 : VC :=
 (.seq
 (.ops false [
   ⟨some 2, .box 2 3 (.t 0), none⟩,
   ⟨some 3, .box 3 3 (.t 1), none⟩,
   ⟨some 4, .mov (.k (.int 0)), none⟩] (some [2, 3]))
 (.seq
 (.ops false [
   ⟨some 5, .fld 0 (.t 2), none⟩,
   ⟨some 6, .load 1 false (.t 5) [], none⟩,
   ⟨some 7, .fld 0 (.t 3), none⟩,
   ⟨some 8, .load 1 false (.t 7) [], none⟩,
   ⟨some 9, .bin .sub (.t 6) (.t 8), none⟩,
   ⟨some 10, .fld 0 (.t 3), none⟩,
   ⟨some 11, .load 1 false (.t 10) [], none⟩,
   ⟨some 12, .fld 0 (.t 2), none⟩,
   ⟨some 13, .load 1 false (.t 12) [], none⟩,
   ⟨some 14, .bin .sub (.t 11) (.t 13), none⟩,
   ⟨some 15, .max (.t 9) (.t 14), none⟩,
   ⟨some 4, .mov (.t 15), none⟩] (some [4]))
 .ret))

theorem m65 : fmatch Try.prog Try.f65 2 [.tmp 4] v65 = true := by kernel_rfl

/-- steening/fines.fewest -/
def v67 : VC :=
 (.seq
 (.ops false [
   ⟨some 1, .box 1 6 (.t 0), none⟩,
   ⟨some 2, .mov (.k (.int 0)), none⟩] (some [1]))
 (.seq
 (.ops true [
   ⟨some 3, .fld 4 (.t 1), none⟩,
   ⟨some 4, .load 1 false (.t 3) [], none⟩,
   ⟨some 5, .len (.t 4), none⟩,
   ⟨some 6, .fld 5 (.t 1), none⟩,
   ⟨some 7, .load 1 false (.t 6) [], none⟩,
   ⟨some 8, .len (.t 7), none⟩,
   ⟨some 9, .bin .add (.t 5) (.t 8), none⟩,
   ⟨some 10, .load 6 true (.t 1) [], none⟩,
   ⟨some 11, .call 64 [.t 10], none⟩,
   ⟨some 12, .idx 1 (.t 11) (.k (.int 0)), none⟩,
   ⟨some 13, .load 1 false (.t 12) [], none⟩,
   ⟨some 14, .len (.t 13), none⟩,
   ⟨some 15, .bin .sub (.t 9) (.t 14), none⟩,
   ⟨some 2, .mov (.t 15), none⟩] (some [2]))
 .ret))

theorem m67 : fmatch Try.prog Try.f67 1 [.tmp 2] v67 = true := by kernel_rfl

/-- steening/steeninglaw13.sameEntries -/
def v68 : VC :=
 (.seq
 (.ops false [
   ⟨some 4, .mov (.k (.bool false)), none⟩] (some [0, 1]))
 (.seq
 (.seq
 (.ops false [
   ⟨some 7, .mov (.t 0), none⟩,
   ⟨some 8, .len (.t 7), none⟩,
   ⟨some 9, .mov (.t 1), none⟩,
   ⟨some 10, .len (.t 9), none⟩,
   ⟨some 11, .bin .neq (.t 8) (.t 10), none⟩] (some [0, 1, 11]))
 (.cond (.t 11)
  (.seq
  (.ops false [
    ⟨some 4, .mov (.k (.bool false)), none⟩] (some [4]))
  .ret)
  .skip))
 (.seq
 (.seq
 (.ops false [
   ⟨some 5, .mov (.k (.int 0)), none⟩] (some [0, 1, 5]))
 (.block 0
  (.loop
   (.seq
   (.seq
   (.ops false [
     ⟨some 12, .mov (.t 5), none⟩,
     ⟨some 13, .mov (.t 0), none⟩,
     ⟨some 14, .len (.t 13), none⟩,
     ⟨some 15, .bin .lss (.t 12) (.t 14), none⟩] (some [0, 1, 5, 15]))
   (.cond (.t 15)
    .skip
    (.exit 0)))
   (.seq
   (.block 1
    (.seq
    (.seq
    (.ops true [
      ⟨some 18, .mov (.t 0), none⟩,
      ⟨some 19, .mov (.t 5), none⟩,
      ⟨some 20, .idx 3 (.t 18) (.t 19), none⟩,
      ⟨some 21, .fld 0 (.t 20), none⟩,
      ⟨some 22, .load 1 false (.t 21) [], none⟩,
      ⟨some 23, .mov (.t 1), none⟩,
      ⟨some 24, .mov (.t 5), none⟩,
      ⟨some 25, .idx 3 (.t 23) (.t 24), none⟩,
      ⟨some 26, .fld 0 (.t 25), none⟩,
      ⟨some 27, .load 1 false (.t 26) [], none⟩,
      ⟨some 28, .bin .neq (.t 22) (.t 27), none⟩,
      ⟨some 29, .mov (.t 28), none⟩,
      ⟨some 30, .mov (.t 0), some (29, false)⟩,
      ⟨some 31, .mov (.t 5), some (29, false)⟩,
      ⟨some 32, .idx 3 (.t 30) (.t 31), some (29, false)⟩,
      ⟨some 33, .fld 1 (.t 32), some (29, false)⟩,
      ⟨some 34, .load 1 false (.t 33) [], some (29, false)⟩,
      ⟨some 35, .mov (.t 1), some (29, false)⟩,
      ⟨some 36, .mov (.t 5), some (29, false)⟩,
      ⟨some 37, .idx 3 (.t 35) (.t 36), some (29, false)⟩,
      ⟨some 38, .fld 1 (.t 37), some (29, false)⟩,
      ⟨some 39, .load 1 false (.t 38) [], some (29, false)⟩,
      ⟨some 40, .bin .neq (.t 34) (.t 39), some (29, false)⟩,
      ⟨some 41, .pick (.t 29) (.k (.bool true)) (.t 40), none⟩,
      ⟨some 42, .mov (.t 41), none⟩,
      ⟨some 43, .mov (.t 0), some (42, false)⟩,
      ⟨some 44, .mov (.t 5), some (42, false)⟩,
      ⟨some 45, .idx 3 (.t 43) (.t 44), some (42, false)⟩,
      ⟨some 46, .fld 2 (.t 45), some (42, false)⟩,
      ⟨some 47, .load 1 false (.t 46) [], some (42, false)⟩,
      ⟨some 48, .len (.t 47), some (42, false)⟩,
      ⟨some 49, .mov (.t 1), some (42, false)⟩,
      ⟨some 50, .mov (.t 5), some (42, false)⟩,
      ⟨some 51, .idx 3 (.t 49) (.t 50), some (42, false)⟩,
      ⟨some 52, .fld 2 (.t 51), some (42, false)⟩,
      ⟨some 53, .load 1 false (.t 52) [], some (42, false)⟩,
      ⟨some 54, .len (.t 53), some (42, false)⟩,
      ⟨some 55, .bin .neq (.t 48) (.t 54), some (42, false)⟩,
      ⟨some 56, .pick (.t 42) (.k (.bool true)) (.t 55), none⟩] (some [0, 1, 5, 56]))
    (.cond (.t 56)
     (.seq
     (.ops false [
       ⟨some 4, .mov (.k (.bool false)), none⟩] (some [4]))
     .ret)
     .skip))
    (.seq
    (.ops false [
      ⟨some 6, .mov (.k (.int 0)), none⟩] (some [0, 1, 5, 6]))
    (.block 2
     (.loop
      (.seq
      (.seq
      (.ops false [
        ⟨some 57, .mov (.t 6), none⟩,
        ⟨some 58, .mov (.t 0), none⟩,
        ⟨some 59, .mov (.t 5), none⟩,
        ⟨some 60, .idx 3 (.t 58) (.t 59), none⟩,
        ⟨some 61, .fld 2 (.t 60), none⟩,
        ⟨some 62, .load 1 false (.t 61) [], none⟩,
        ⟨some 63, .len (.t 62), none⟩,
        ⟨some 64, .bin .lss (.t 57) (.t 63), none⟩] (some [0, 1, 5, 6, 64]))
      (.cond (.t 64)
       .skip
       (.exit 2)))
      (.seq
      (.block 3
       (.seq
       (.ops true [
         ⟨some 67, .mov (.t 0), none⟩,
         ⟨some 68, .mov (.t 5), none⟩,
         ⟨some 69, .idx 3 (.t 67) (.t 68), none⟩,
         ⟨some 70, .fld 2 (.t 69), none⟩,
         ⟨some 71, .load 1 false (.t 70) [], none⟩,
         ⟨some 72, .mov (.t 6), none⟩,
         ⟨some 73, .idx 2 (.t 71) (.t 72), none⟩,
         ⟨some 74, .load 2 true (.t 73) [], none⟩,
         ⟨some 75, .mov (.t 1), none⟩,
         ⟨some 76, .mov (.t 5), none⟩,
         ⟨some 77, .idx 3 (.t 75) (.t 76), none⟩,
         ⟨some 78, .fld 2 (.t 77), none⟩,
         ⟨some 79, .load 1 false (.t 78) [], none⟩,
         ⟨some 80, .mov (.t 6), none⟩,
         ⟨some 81, .idx 2 (.t 79) (.t 80), none⟩,
         ⟨some 82, .load 2 true (.t 81) [], none⟩,
         ⟨some 83, .bin (.sne 2) (.t 74) (.t 82), none⟩] (some [0, 1, 5, 6, 83]))
       (.cond (.t 83)
        (.seq
        (.ops false [
          ⟨some 4, .mov (.k (.bool false)), none⟩] (some [4]))
        .ret)
        .skip)))
      (.ops false [
        ⟨some 65, .mov (.t 6), none⟩,
        ⟨some 66, .bin .add (.t 65) (.k (.int 1)), none⟩,
        ⟨some 6, .mov (.t 66), none⟩] (some [0, 1, 5, 6])))))))))
   (.ops false [
     ⟨some 16, .mov (.t 5), none⟩,
     ⟨some 17, .bin .add (.t 16) (.k (.int 1)), none⟩,
     ⟨some 5, .mov (.t 17), none⟩] (some [0, 1, 5])))))))
 (.seq
 (.ops false [
   ⟨some 4, .mov (.k (.bool true)), none⟩] (some [4]))
 .ret))))

theorem m68 : fmatch Try.prog Try.f68 2 [.tmp 4] v68 = true := by kernel_rfl

/-- steening/steeningref13.mine -/
def v69 : VC :=
 (.seq
 (.ops false [
   ⟨some 4, .nils 4 3, none⟩] (some [0, 1]))
 (.seq
 (.ops false [
   ⟨some 5, .nils 5 3, none⟩] (some [0, 1, 5]))
 (.seq
 (.seq
 (.ops false [
   ⟨some 6, .mov (.k (.int 0)), none⟩] (some [0, 1, 5, 6]))
 (.block 0
  (.loop
   (.seq
   (.seq
   (.ops false [
     ⟨some 7, .mov (.t 6), none⟩,
     ⟨some 8, .mov (.t 0), none⟩,
     ⟨some 9, .len (.t 8), none⟩,
     ⟨some 10, .bin .lss (.t 7) (.t 9), none⟩] (some [0, 1, 5, 6, 10]))
   (.cond (.t 10)
    .skip
    (.exit 0)))
   (.seq
   (.block 1
    (.seq
    (.ops false [
      ⟨some 13, .mov (.t 0), none⟩,
      ⟨some 14, .mov (.t 6), none⟩,
      ⟨some 15, .idx 3 (.t 13) (.t 14), none⟩,
      ⟨some 16, .fld 1 (.t 15), none⟩,
      ⟨some 17, .load 1 false (.t 16) [], none⟩,
      ⟨some 18, .mov (.t 1), none⟩,
      ⟨some 19, .bin .eql (.t 17) (.t 18), none⟩] (some [0, 1, 5, 6, 19]))
    (.cond (.t 19)
     (.ops false [
       ⟨some 20, .mov (.t 5), none⟩,
       ⟨some 21, .mov (.t 0), none⟩,
       ⟨some 22, .mov (.t 6), none⟩,
       ⟨some 23, .idx 3 (.t 21) (.t 22), none⟩,
       ⟨some 24, .load 3 true (.t 23) [], none⟩,
       ⟨some 25, .bslice 3 [.t 24], none⟩,
       ⟨some 26, .app 5 3 40 (.t 20) (.t 25), none⟩,
       ⟨some 5, .mov (.t 26), none⟩] (some [0, 1, 5, 6]))
     .skip)))
   (.ops false [
     ⟨some 11, .mov (.t 6), none⟩,
     ⟨some 12, .bin .add (.t 11) (.k (.int 1)), none⟩,
     ⟨some 6, .mov (.t 12), none⟩] (some [0, 1, 5, 6])))))))
 (.seq
 (.ops false [
   ⟨some 27, .mov (.t 5), none⟩,
   ⟨some 4, .mov (.t 27), none⟩] (some [4]))
 .ret))))

theorem m69 : fmatch Try.prog Try.f69 2 [.tmp 4] v69 = true := by kernel_rfl

/-- steening/fines.ask -/
def v70 : VC :=
 (.seq
 (.ops false [
   ⟨some 2, .box 2 6 (.t 0), none⟩,
   ⟨some 4, .mov (.k (.int 0)), none⟩] (some [1, 2]))
 (.seq
 (.seq
 (.ops false [
   ⟨some 6, .load 6 true (.t 2) [], none⟩,
   ⟨some 7, .call 48 [.t 6], none⟩,
   ⟨some 5, .mov (.t 7), none⟩] (some [1, 5]))
 (.seq
 (.ops false [
   ⟨some 8, .mov (.t 5), none⟩,
   ⟨some 9, .bin .neq (.t 8) (.k (.int 0)), none⟩] (some [1, 5, 9]))
 (.cond (.t 9)
  (.seq
  (.ops false [
    ⟨some 10, .mov (.t 5), none⟩,
    ⟨some 4, .mov (.t 10), none⟩] (some [4]))
  .ret)
  .skip)))
 (.seq
 (.seq
 (.ops false [
   ⟨some 11, .mov (.t 1), none⟩,
   ⟨some 12, .not (.t 11), none⟩] (some [12]))
 (.cond (.t 12)
  (.seq
  (.ops false [
    ⟨some 4, .mov (.k (.int 1)), none⟩] (some [4]))
  .ret)
  .skip))
 (.seq
 (.ops false [
   ⟨some 4, .mov (.k (.int 0)), none⟩] (some [4]))
 .ret))))

theorem m70 : fmatch Try.prog Try.f70 2 [.tmp 4] v70 = true := by kernel_rfl

/-- steening/fines.within -/
def v71 : VC :=
 (.seq
 (.ops false [
   ⟨some 6, .mov (.k (.bool false)), none⟩] (some [0, 1, 2]))
 (.seq
 (.ops false [
   ⟨some 7, .mov (.t 1), none⟩,
   ⟨some 8, .mov (.t 0), none⟩,
   ⟨some 9, .bin .leq (.t 7) (.t 8), none⟩,
   ⟨some 10, .mov (.t 9), none⟩,
   ⟨some 11, .mov (.t 0), some (10, true)⟩,
   ⟨some 12, .mov (.t 2), some (10, true)⟩,
   ⟨some 13, .bin .leq (.t 11) (.t 12), some (10, true)⟩,
   ⟨some 14, .pick (.t 10) (.t 13) (.k (.bool false)), none⟩,
   ⟨some 6, .mov (.t 14), none⟩] (some [6]))
 .ret))

theorem m71 : fmatch Try.prog Try.f71 3 [.tmp 6] v71 = true := by kernel_rfl

/-- steening/fines.book -/
def v73 : VC :=
 (.seq
 (.ops false [
   ⟨some 2, .box 2 6 (.t 0), none⟩,
   ⟨some 4, .nils 4 3, none⟩,
   ⟨some 5, .mov (.k .und), none⟩] (some [1, 2]))
 (.seq
 (.seq
 (.ops false [
   ⟨some 6, .mov (.t 1), none⟩,
   ⟨some 7, .bin .eql (.t 6) (.k (.int 0)), none⟩] (some [2, 7]))
 (.cond (.t 7)
  (.seq
  (.ops false [
    ⟨some 8, .fld 4 (.t 2), none⟩,
    ⟨some 9, .load 1 false (.t 8) [], none⟩,
    ⟨some 4, .mov (.t 9), none⟩,
    ⟨some 5, .mov (.k (.clo 100 [] [])), none⟩] (some [4, 5]))
  .ret)
  .skip))
 (.seq
 (.ops false [
   ⟨some 10, .fld 5 (.t 2), none⟩,
   ⟨some 11, .load 1 false (.t 10) [], none⟩,
   ⟨some 4, .mov (.t 11), none⟩,
   ⟨some 5, .mov (.k (.clo 101 [] [])), none⟩] (some [4, 5]))
 .ret)))

theorem m73 : fmatch Try.prog Try.f73 2 [.tmp 4, .tmp 5] v73 = true := by kernel_rfl

/-- steening/steeningref13.ask -/
def v74 : VC :=
 (.seq
 (.ops false [
   ⟨some 2, .box 2 6 (.t 0), none⟩,
   ⟨some 4, .mov (.k (.int 0)), none⟩] (some [1, 2]))
 (.seq
 (.seq
 (.ops false [
   ⟨some 6, .load 6 true (.t 2) [], none⟩,
   ⟨some 7, .call 49 [.t 6], none⟩,
   ⟨some 5, .mov (.t 7), none⟩] (some [1, 5]))
 (.seq
 (.ops false [
   ⟨some 8, .mov (.t 5), none⟩,
   ⟨some 9, .bin .neq (.t 8) (.k (.int 0)), none⟩] (some [1, 5, 9]))
 (.cond (.t 9)
  (.seq
  (.ops false [
    ⟨some 10, .mov (.t 5), none⟩,
    ⟨some 4, .mov (.t 10), none⟩] (some [4]))
  .ret)
  .skip)))
 (.seq
 (.seq
 (.ops false [
   ⟨some 11, .mov (.t 1), none⟩,
   ⟨some 12, .not (.t 11), none⟩] (some [12]))
 (.cond (.t 12)
  (.seq
  (.ops false [
    ⟨some 4, .mov (.k (.int 1)), none⟩] (some [4]))
  .ret)
  .skip))
 (.seq
 (.ops false [
   ⟨some 4, .mov (.k (.int 0)), none⟩] (some [4]))
 .ret))))

theorem m74 : fmatch Try.prog Try.f74 2 [.tmp 4] v74 = true := by kernel_rfl

/-- steening/steeningref13.IsPerson -/
def v75 : VC :=
 (.seq
 (.ops false [
   ⟨some 2, .box 2 6 (.t 0), none⟩,
   ⟨some 4, .mov (.k (.bool false)), none⟩] (some [1, 2]))
 (.seq
 (.ops false [
   ⟨some 5, .mov (.t 1), none⟩,
   ⟨some 6, .fld 2 (.t 2), none⟩,
   ⟨some 7, .load 1 false (.t 6) [], none⟩,
   ⟨some 8, .bin .sub (.t 7) (.k (.int 1)), none⟩,
   ⟨some 9, .call 77 [.t 5, .k (.int 0), .t 8], none⟩,
   ⟨some 4, .mov (.t 9), none⟩] (some [4]))
 .ret))

theorem m75 : fmatch Try.prog Try.f75 2 [.tmp 4] v75 = true := by kernel_rfl

/-- steening/steeningref13.CanBe -/
def v76 : VC :=
 (.seq
 (.ops false [
   ⟨some 3, .box 3 6 (.t 0), none⟩,
   ⟨some 4, .box 4 3 (.t 1), none⟩,
   ⟨some 5, .box 5 3 (.t 2), none⟩,
   ⟨some 6, .mov (.k (.bool false)), none⟩] (some [3, 4, 5]))
 (.seq
 (.ops false [
   ⟨some 10, .fld 2 (.t 4), none⟩,
   ⟨some 11, .load 1 false (.t 10) [], none⟩,
   ⟨some 12, .fld 2 (.t 5), none⟩,
   ⟨some 13, .load 1 false (.t 12) [], none⟩,
   ⟨some 14, .call 102 [.t 11, .t 13], none⟩,
   ⟨some 9, .mov (.t 14), none⟩,
   ⟨some 15, .ext (.t 9) 0, none⟩,
   ⟨some 16, .ext (.t 9) 1, none⟩,
   ⟨some 7, .mov (.t 15), none⟩,
   ⟨some 8, .mov (.t 16), none⟩] (some [3, 4, 5, 8]))
 (.seq
 (.ops true [
   ⟨some 17, .mov (.t 8), none⟩,
   ⟨some 18, .mov (.t 17), none⟩,
   ⟨some 19, .fld 1 (.t 4), some (18, true)⟩,
   ⟨some 20, .load 1 false (.t 19) [], some (18, true)⟩,
   ⟨some 21, .fld 1 (.t 5), some (18, true)⟩,
   ⟨some 22, .load 1 false (.t 21) [], some (18, true)⟩,
   ⟨some 23, .bin .eql (.t 20) (.t 22), some (18, true)⟩,
   ⟨some 24, .pick (.t 18) (.t 23) (.k (.bool false)), none⟩,
   ⟨some 25, .mov (.t 24), none⟩,
   ⟨some 26, .load 3 true (.t 4) [], some (25, true)⟩,
   ⟨some 27, .load 3 true (.t 5) [], some (25, true)⟩,
   ⟨some 28, .call 90 [.t 26, .t 27], some (25, true)⟩,
   ⟨some 29, .fld 3 (.t 3), some (25, true)⟩,
   ⟨some 30, .load 1 false (.t 29) [], some (25, true)⟩,
   ⟨some 31, .bin .leq (.t 28) (.t 30), some (25, true)⟩,
   ⟨some 32, .pick (.t 25) (.t 31) (.k (.bool false)), none⟩,
   ⟨some 6, .mov (.t 32), none⟩] (some [6]))
 .ret)))

theorem m76 : fmatch Try.prog Try.f76 3 [.tmp 6] v76 = true := by kernel_rfl

/-- steening/steeningref13.within -/
def v77 : VC :=
 (.seq
 (.ops false [
   ⟨some 6, .mov (.k (.bool false)), none⟩] (some [0, 1, 2]))
 (.seq
 (.ops false [
   ⟨some 7, .mov (.t 0), none⟩,
   ⟨some 8, .mov (.t 1), none⟩,
   ⟨some 9, .mov (.t 2), none⟩,
   ⟨some 10, .call 33 [.t 7, .t 8, .t 9], none⟩,
   ⟨some 6, .mov (.t 10), none⟩] (some [6]))
 .ret))

theorem m77 : fmatch Try.prog Try.f77 3 [.tmp 6] v77 = true := by kernel_rfl

/-- steening/fines.has -/
def v78 : VC :=
 (.seq
 (.ops false [
   ⟨some 4, .mov (.k (.bool false)), none⟩] (some [0, 1]))
 (.seq
 (.ops false [
   ⟨some 5, .mov (.t 1), none⟩,
   ⟨some 6, .mov (.t 0), none⟩,
   ⟨some 7, .len (.t 6), none⟩,
   ⟨some 8, .bin .sub (.t 7) (.k (.int 1)), none⟩,
   ⟨some 9, .call 71 [.t 5, .k (.int 0), .t 8], none⟩,
   ⟨some 4, .mov (.t 9), none⟩] (some [4]))
 .ret))

theorem m78 : fmatch Try.prog Try.f78 2 [.tmp 4] v78 = true := by kernel_rfl

/-- steening/fines.common -/
def v79 : VC :=
 (.seq
 (.ops false [
   ⟨some 4, .box 4 3 (.t 1), none⟩,
   ⟨some 5, .box 5 3 (.t 2), none⟩,
   ⟨some 6, .nils 6 2, none⟩,
   ⟨some 7, .mov (.k (.bool false)), none⟩] (some [0, 4, 5]))
 (.seq
 (.ops false [
   ⟨some 14, .fld 1 (.t 4), none⟩,
   ⟨some 15, .load 1 false (.t 14) [], none⟩,
   ⟨some 16, .fld 1 (.t 5), none⟩,
   ⟨some 17, .load 1 false (.t 16) [], none⟩,
   ⟨some 18, .bin .eql (.t 15) (.t 17), none⟩,
   ⟨some 19, .mov (.t 18), none⟩,
   ⟨some 20, .load 3 true (.t 4) [], some (19, true)⟩,
   ⟨some 21, .load 3 true (.t 5) [], some (19, true)⟩,
   ⟨some 22, .call 65 [.t 20, .t 21], some (19, true)⟩,
   ⟨some 23, .mov (.t 0), some (19, true)⟩,
   ⟨some 24, .bin .leq (.t 22) (.t 23), some (19, true)⟩,
   ⟨some 25, .pick (.t 19) (.t 24) (.k (.bool false)), none⟩,
   ⟨some 8, .mov (.t 25), none⟩] (some [4, 5, 8]))
 (.seq
 (.ops false [
   ⟨some 9, .nils 9 2, none⟩] (some [4, 5, 8, 9]))
 (.seq
 (.seq
 (.ops false [
   ⟨some 26, .fld 2 (.t 4), none⟩,
   ⟨some 27, .load 1 false (.t 26) [], none⟩,
   ⟨some 28, .len (.t 27), none⟩,
   ⟨some 29, .mov (.k (.int 0)), none⟩] (some [5, 8, 9, 27, 28, 29]))
 (.block 0
  (.loop
   (.seq
   (.ops false [
     ⟨some 30, .bin .lss (.t 29) (.t 28), none⟩] (some [5, 8, 9, 27, 28, 29, 30]))
   (.seq
   (.cond (.t 30)
    .skip
    (.exit 0))
   (.seq
   (.block 1
    (.seq
    (.ops false [
      ⟨some 31, .mov (.t 29), none⟩,
      ⟨some 32, .idx 2 (.t 27) (.t 29), none⟩,
      ⟨some 33, .load 2 true (.t 32) [], none⟩,
      ⟨some 11, .alloc 11 [.int 0, .int 0], none⟩,
      ⟨some 10, .mov (.t 31), none⟩,
      ⟨none, .store 2 (.t 11) (.t 33) (some 11), none⟩] (some [5, 8, 9, 10, 11, 27, 28, 29]))
    (.seq
    (.ops false [
      ⟨some 34, .fld 2 (.t 5), none⟩,
      ⟨some 35, .load 1 false (.t 34) [], none⟩,
      ⟨some 36, .mov (.t 10), none⟩,
      ⟨some 37, .idx 2 (.t 35) (.t 36), none⟩,
      ⟨some 38, .load 2 true (.t 37) [], none⟩,
      ⟨some 12, .alloc 12 [.int 0, .int 0], none⟩,
      ⟨none, .store 2 (.t 12) (.t 38) (some 12), none⟩] (some [5, 8, 9, 11, 12, 27, 28, 29]))
    (.seq
    (.ops false [
      ⟨some 39, .fld 0 (.t 11), none⟩,
      ⟨some 40, .load 1 false (.t 39) [], none⟩,
      ⟨some 41, .fld 0 (.t 12), none⟩,
      ⟨some 42, .load 1 false (.t 41) [], none⟩,
      ⟨some 43, .max (.t 40) (.t 42), none⟩,
      ⟨some 44, .fld 1 (.t 11), none⟩,
      ⟨some 45, .load 1 false (.t 44) [], none⟩,
      ⟨some 46, .fld 1 (.t 12), none⟩,
      ⟨some 47, .load 1 false (.t 46) [], none⟩,
      ⟨some 48, .min (.t 45) (.t 47), none⟩,
      ⟨some 49, .build [.int 0, .int 0] [(0, 1, .t 43), (1, 1, .t 48)], none⟩,
      ⟨some 13, .alloc 13 [.int 0, .int 0], none⟩,
      ⟨none, .store 2 (.t 13) (.t 49) (some 13), none⟩] (some [5, 8, 9, 13, 27, 28, 29]))
    (.seq
    (.ops false [
      ⟨some 50, .mov (.t 8), none⟩,
      ⟨some 51, .mov (.t 50), none⟩,
      ⟨some 52, .fld 0 (.t 13), some (51, true)⟩,
      ⟨some 53, .load 1 false (.t 52) [], some (51, true)⟩,
      ⟨some 54, .fld 1 (.t 13), some (51, true)⟩,
      ⟨some 55, .load 1 false (.t 54) [], some (51, true)⟩,
      ⟨some 56, .bin .leq (.t 53) (.t 55), some (51, true)⟩,
      ⟨some 57, .pick (.t 51) (.t 56) (.k (.bool false)), none⟩,
      ⟨some 8, .mov (.t 57), none⟩] (some [5, 8, 9, 13, 27, 28, 29]))
    (.ops false [
      ⟨some 58, .mov (.t 9), none⟩,
      ⟨some 59, .load 2 true (.t 13) [], none⟩,
      ⟨some 60, .bslice 2 [.t 59], none⟩,
      ⟨some 61, .app 9 2 16 (.t 58) (.t 60), none⟩,
      ⟨some 9, .mov (.t 61), none⟩] (some [5, 8, 9, 27, 28, 29])))))))
   (.ops false [
     ⟨some 62, .bin .add (.t 29) (.k (.int 1)), none⟩,
     ⟨some 29, .mov (.t 62), none⟩] (some [5, 8, 9, 27, 28, 29]))))))))
 (.seq
 (.ops false [
   ⟨some 63, .mov (.t 9), none⟩,
   ⟨some 64, .mov (.t 8), none⟩,
   ⟨some 6, .mov (.t 63), none⟩,
   ⟨some 7, .mov (.t 64), none⟩] (some [6, 7]))
 .ret)))))

theorem m79 : fmatch Try.prog Try.f79 3 [.tmp 6, .tmp 7] v79 = true := by kernel_rfl

/-- steening/fines.pence -/
def v80 : VC :=
 (.seq
 (.ops false [
   ⟨some 2, .box 2 6 (.t 0), none⟩,
   ⟨some 4, .alloc 4 [.int 0, .int 0], none⟩] (some [1, 2, 4]))
 (.seq
 (.ops false [
   ⟨some 8, .load 6 true (.t 2) [], none⟩,
   ⟨some 9, .mov (.t 1), none⟩,
   ⟨some 10, .bslice 1 [.t 9], none⟩,
   ⟨some 11, .call 82 [.t 8, .t 10], none⟩,
   ⟨some 12, .call 103 [.t 11, .k (.int 0)], none⟩,
   ⟨some 7, .mov (.t 12), none⟩,
   ⟨some 13, .ext (.t 7) 0, none⟩,
   ⟨some 14, .ext (.t 7) 1, none⟩,
   ⟨some 5, .alloc 5 [.int 0, .int 0], none⟩,
   ⟨none, .store 2 (.t 5) (.t 13) (some 5), none⟩,
   ⟨some 6, .mov (.t 14), none⟩] (some [4, 5]))
 (.seq
 (.ops false [
   ⟨some 15, .load 2 true (.t 5) [], none⟩,
   ⟨none, .store 2 (.t 4) (.t 15) (some 4), none⟩] (some [4]))
 .ret)))

theorem m80 : fmatch Try.prog Try.f80 2 [.cell 4 36] v80 = true := by kernel_rfl

/-- steening/knots.Check -/
def v81 : VC :=
 (.seq
 (.ops false [
   ⟨some 1, .box 1 4 (.t 0), none⟩,
   ⟨some 2, .mov (.k (.int 0)), none⟩] (some [1]))
 (.seq
 (.ops false [
   ⟨some 4, .mkf 104 [.t 1], none⟩,
   ⟨some 3, .mov (.t 4), none⟩] (some [1, 3]))
 (.seq
 (.seq
 (.ops false [
   ⟨some 5, .fld 0 (.t 1), none⟩,
   ⟨some 6, .load 1 false (.t 5) [], none⟩,
   ⟨some 7, .call 106 [.t 6, .k (.int 2), .k (.int 10)], none⟩,
   ⟨some 8, .not (.t 7), none⟩,
   ⟨some 9, .mov (.t 8), none⟩,
   ⟨some 10, .fld 1 (.t 1), some (9, false)⟩,
   ⟨some 11, .load 1 false (.t 10) [], some (9, false)⟩,
   ⟨some 12, .call 106 [.t 11, .k (.int 1), .k (.int 4)], some (9, false)⟩,
   ⟨some 13, .not (.t 12), some (9, false)⟩,
   ⟨some 14, .pick (.t 9) (.k (.bool true)) (.t 13), none⟩,
   ⟨some 15, .mov (.t 14), none⟩,
   ⟨some 16, .fld 2 (.t 1), some (15, false)⟩,
   ⟨some 17, .load 1 false (.t 16) [], some (15, false)⟩,
   ⟨some 18, .len (.t 17), some (15, false)⟩,
   ⟨some 19, .bin .gtr (.t 18) (.k (.int 4)), some (15, false)⟩,
   ⟨some 20, .pick (.t 15) (.k (.bool true)) (.t 19), none⟩,
   ⟨some 21, .mov (.t 20), none⟩,
   ⟨some 22, .fld 2 (.t 1), some (21, false)⟩,
   ⟨some 23, .load 1 false (.t 22) [], some (21, false)⟩,
   ⟨some 24, .mov (.t 3), some (21, false)⟩,
   ⟨some 25, .call 107 [.t 23, .t 24], some (21, false)⟩,
   ⟨some 26, .pick (.t 21) (.k (.bool true)) (.t 25), none⟩,
   ⟨some 27, .mov (.t 26), none⟩,
   ⟨some 28, .mov (.t 3), some (27, false)⟩,
   ⟨some 29, .fld 3 (.t 1), some (27, false)⟩,
   ⟨some 30, .load 1 false (.t 29) [], some (27, false)⟩,
   ⟨some 31, .callv (.t 28) [.t 30], some (27, false)⟩,
   ⟨some 32, .pick (.t 27) (.k (.bool true)) (.t 31), none⟩] (some [32]))
 (.cond (.t 32)
  (.seq
  (.ops false [
    ⟨some 2, .mov (.k (.int 110)), none⟩] (some [2]))
  .ret)
  .skip))
 (.seq
 (.ops false [
   ⟨some 2, .mov (.k (.int 0)), none⟩] (some [2]))
 .ret))))

theorem m81 : fmatch Try.prog Try.f81 1 [.tmp 2] v81 = true := by kernel_rfl

/-- steening/fines.knotted -/
def v82 : VC :=
 (.seq
 (.ops false [
   ⟨some 2, .box 2 6 (.t 0), none⟩,
   ⟨some 4, .alloc 4 [.int 0, .int 0, .sl 1 [] .full, .sl 2 [] .full], none⟩] (some [1, 2, 4]))
 (.seq
 (.ops true [
   ⟨some 5, .fld 0 (.t 2), none⟩,
   ⟨some 6, .load 1 false (.t 5) [4, 14], none⟩,
   ⟨some 7, .fld 1 (.t 2), none⟩,
   ⟨some 8, .load 1 false (.t 7) [4, 14], none⟩,
   ⟨some 9, .mov (.t 1), none⟩,
   ⟨some 10, .fld 1 (.t 2), none⟩,
   ⟨some 11, .load 1 false (.t 10) [4, 14], none⟩,
   ⟨some 12, .max (.k (.int 0)) (.t 11), none⟩,
   ⟨some 13, .min (.t 12) (.k (.int 4)), none⟩,
   ⟨some 14, .makes 14 2 16 true [.int 0, .int 0] (.t 13), none⟩,
   ⟨some 15, .buildW [.int 0, .int 0, .sl 1 [] .sh, .sl 2 [] .sh] [(0, 1, .t 6), (1, 1, .t 8), (2, 1, .t 9), (3, 1, .t 14)], none⟩,
   ⟨none, .store 4 (.t 4) (.t 15) (some 4), none⟩] (some [4]))
 .ret))

theorem m82 : fmatch Try.prog Try.f82 2 [.cell 4 102] v82 = true := by kernel_rfl

/-- slices.ContainsFunc[[]steening/api.FineEntry,steening/api.FineEntry] -/
def v83 : VC :=
 (.seq
 (.ops false [
   ⟨some 4, .mov (.k (.bool false)), none⟩] (some [0, 1]))
 (.seq
 (.ops false [
   ⟨some 5, .mov (.t 0), none⟩,
   ⟨some 6, .mov (.t 1), none⟩,
   ⟨some 7, .call 108 [.t 5, .t 6], none⟩,
   ⟨some 8, .bin .geq (.t 7) (.k (.int 0)), none⟩,
   ⟨some 4, .mov (.t 8), none⟩] (some [4]))
 .ret))

theorem m83 : fmatch Try.prog Try.f83 2 [.tmp 4] v83 = true := by kernel_rfl

/-- steening/fines.Check$1 -/
def v84 : VC :=
 (.seq
 (.ops false [
   ⟨some 2, .box 2 3 (.t 0), none⟩,
   ⟨some 3, .mov (.k (.bool false)), none⟩] (some [1, 2]))
 (.seq
 (.ops false [
   ⟨some 4, .load 6 true (.t 1) [], none⟩,
   ⟨some 5, .load 3 true (.t 2) [], none⟩,
   ⟨some 6, .call 85 [.t 4, .t 5], none⟩,
   ⟨some 7, .not (.t 6), none⟩,
   ⟨some 3, .mov (.t 7), none⟩] (some [3]))
 .ret))

theorem m84 : fmatch Try.prog Try.f84 2 [.tmp 3] v84 = true := by kernel_rfl

/-- steening/fines.isEntry -/
def v85 : VC :=
 (.seq
 (.ops false [
   ⟨some 2, .box 2 6 (.t 0), none⟩,
   ⟨some 3, .box 3 3 (.t 1), none⟩,
   ⟨some 4, .mov (.k (.bool false)), none⟩] (some [2, 3]))
 (.seq
 (.ops false [
   ⟨some 5, .fld 0 (.t 3), none⟩,
   ⟨some 6, .load 1 false (.t 5) [], none⟩,
   ⟨some 7, .call 71 [.t 6, .k (.int 0), .k (.int 99)], none⟩,
   ⟨some 8, .mov (.t 7), none⟩,
   ⟨some 9, .fld 1 (.t 3), some (8, true)⟩,
   ⟨some 10, .load 1 false (.t 9) [], some (8, true)⟩,
   ⟨some 11, .fld 2 (.t 2), some (8, true)⟩,
   ⟨some 12, .load 1 false (.t 11) [], some (8, true)⟩,
   ⟨some 13, .bin .sub (.t 12) (.k (.int 1)), some (8, true)⟩,
   ⟨some 14, .call 71 [.t 10, .k (.int 0), .t 13], some (8, true)⟩,
   ⟨some 15, .pick (.t 8) (.t 14) (.k (.bool false)), none⟩,
   ⟨some 16, .mov (.t 15), none⟩,
   ⟨some 17, .load 6 true (.t 2) [], some (16, true)⟩,
   ⟨some 18, .fld 2 (.t 3), some (16, true)⟩,
   ⟨some 19, .load 1 false (.t 18) [], some (16, true)⟩,
   ⟨some 20, .bslice 1 [.t 19], some (16, true)⟩,
   ⟨some 21, .call 82 [.t 17, .t 20], some (16, true)⟩,
   ⟨some 22, .call 81 [.t 21], some (16, true)⟩,
   ⟨some 23, .bin .eql (.t 22) (.k (.int 0)), some (16, true)⟩,
   ⟨some 24, .pick (.t 16) (.t 23) (.k (.bool false)), none⟩,
   ⟨some 4, .mov (.t 24), none⟩] (some [4]))
 .ret))

theorem m85 : fmatch Try.prog Try.f85 2 [.tmp 4] v85 = true := by kernel_rfl

/-- steening/steeningref13.areEntries -/
def v86 : VC :=
 (.seq
 (.ops false [
   ⟨some 2, .box 2 6 (.t 0), none⟩,
   ⟨some 4, .mov (.k (.bool false)), none⟩] (some [1, 2]))
 (.seq
 (.seq
 (.ops false [
   ⟨some 7, .mov (.t 1), none⟩,
   ⟨some 8, .len (.t 7), none⟩,
   ⟨some 9, .bin .gtr (.t 8) (.k (.int 5)), none⟩] (some [1, 2, 9]))
 (.cond (.t 9)
  (.seq
  (.ops false [
    ⟨some 4, .mov (.k (.bool false)), none⟩] (some [4]))
  .ret)
  .skip))
 (.seq
 (.seq
 (.ops false [
   ⟨some 5, .mov (.k (.int 0)), none⟩] (some [1, 2, 5]))
 (.block 0
  (.loop
   (.seq
   (.seq
   (.ops false [
     ⟨some 10, .mov (.t 5), none⟩,
     ⟨some 11, .mov (.t 1), none⟩,
     ⟨some 12, .len (.t 11), none⟩,
     ⟨some 13, .bin .lss (.t 10) (.t 12), none⟩] (some [1, 2, 5, 13]))
   (.cond (.t 13)
    .skip
    (.exit 0)))
   (.seq
   (.block 1
    (.seq
    (.ops false [
      ⟨some 16, .mov (.t 1), none⟩,
      ⟨some 17, .mov (.t 5), none⟩,
      ⟨some 18, .idx 3 (.t 16) (.t 17), none⟩,
      ⟨some 19, .load 3 true (.t 18) [], none⟩,
      ⟨some 6, .alloc 6 [.int 0, .int 0, .sl 2 [] .full], none⟩,
      ⟨none, .store 3 (.t 6) (.t 19) (some 6), none⟩] (some [1, 2, 5, 6]))
    (.seq
    (.ops false [
      ⟨some 20, .fld 0 (.t 6), none⟩,
      ⟨some 21, .load 1 false (.t 20) [], none⟩,
      ⟨some 22, .call 77 [.t 21, .k (.int 0), .k (.int 99)], none⟩,
      ⟨some 23, .not (.t 22), none⟩,
      ⟨some 24, .mov (.t 23), none⟩,
      ⟨some 25, .load 6 true (.t 2) [], some (24, false)⟩,
      ⟨some 26, .fld 1 (.t 6), some (24, false)⟩,
      ⟨some 27, .load 1 false (.t 26) [], some (24, false)⟩,
      ⟨some 28, .call 75 [.t 25, .t 27], some (24, false)⟩,
      ⟨some 29, .not (.t 28), some (24, false)⟩,
      ⟨some 30, .pick (.t 24) (.k (.bool true)) (.t 29), none⟩,
      ⟨some 31, .mov (.t 30), none⟩,
      ⟨some 32, .load 6 true (.t 2) [], some (31, false)⟩,
      ⟨some 33, .fld 2 (.t 6), some (31, false)⟩,
      ⟨some 34, .load 1 false (.t 33) [], some (31, false)⟩,
      ⟨some 35, .call 110 [.t 32, .t 34], some (31, false)⟩,
      ⟨some 36, .call 109 [.t 35], some (31, false)⟩,
      ⟨some 37, .bin .neq (.t 36) (.k (.int 0)), some (31, false)⟩,
      ⟨some 38, .pick (.t 31) (.k (.bool true)) (.t 37), none⟩] (some [1, 2, 5, 38]))
    (.cond (.t 38)
     (.seq
     (.ops false [
       ⟨some 4, .mov (.k (.bool false)), none⟩] (some [4]))
     .ret)
     .skip))))
   (.ops false [
     ⟨some 14, .mov (.t 5), none⟩,
     ⟨some 15, .bin .add (.t 14) (.k (.int 1)), none⟩,
     ⟨some 5, .mov (.t 15), none⟩] (some [1, 2, 5])))))))
 (.seq
 (.ops false [
   ⟨some 4, .mov (.k (.bool true)), none⟩] (some [4]))
 .ret))))

theorem m86 : fmatch Try.prog Try.f86 2 [.tmp 4] v86 = true := by kernel_rfl

/-- steening/steeningref13.CommonOf -/
def v87 : VC :=
 (.seq
 (.ops false [
   ⟨some 3, .box 3 6 (.t 0), none⟩,
   ⟨some 4, .box 4 3 (.t 1), none⟩,
   ⟨some 5, .box 5 3 (.t 2), none⟩,
   ⟨some 6, .alloc 6 [.int 0, .int 0], none⟩] (some [3, 4, 5, 6]))
 (.seq
 (.ops false [
   ⟨some 10, .fld 2 (.t 4), none⟩,
   ⟨some 11, .load 1 false (.t 10) [], none⟩,
   ⟨some 12, .fld 2 (.t 5), none⟩,
   ⟨some 13, .load 1 false (.t 12) [], none⟩,
   ⟨some 14, .call 102 [.t 11, .t 13], none⟩,
   ⟨some 9, .mov (.t 14), none⟩,
   ⟨some 15, .ext (.t 9) 0, none⟩,
   ⟨some 16, .ext (.t 9) 1, none⟩,
   ⟨some 7, .mov (.t 15), none⟩,
   ⟨some 8, .mov (.t 16), none⟩] (some [3, 6, 7]))
 (.seq
 (.ops false [
   ⟨some 17, .load 6 true (.t 3) [], none⟩,
   ⟨some 18, .mov (.t 7), none⟩,
   ⟨some 19, .call 92 [.t 17, .t 18], none⟩,
   ⟨none, .store 2 (.t 6) (.t 19) (some 6), none⟩] (some [6]))
 .ret)))

theorem m87 : fmatch Try.prog Try.f87 3 [.cell 6 36] v87 = true := by kernel_rfl

/-- steening/steeningref13.Apart -/
def v90 : VC :=
 (.seq
 (.ops false [
   ⟨some 2, .box 2 3 (.t 0), none⟩,
   ⟨some 3, .box 3 3 (.t 1), none⟩,
   ⟨some 4, .mov (.k (.int 0)), none⟩] (some [2, 3]))
 (.seq
 (.ops false [
   ⟨some 5, .fld 0 (.t 2), none⟩,
   ⟨some 6, .load 1 false (.t 5) [], none⟩,
   ⟨some 7, .fld 0 (.t 3), none⟩,
   ⟨some 8, .load 1 false (.t 7) [], none⟩,
   ⟨some 9, .bin .sub (.t 6) (.t 8), none⟩,
   ⟨some 10, .fld 0 (.t 3), none⟩,
   ⟨some 11, .load 1 false (.t 10) [], none⟩,
   ⟨some 12, .fld 0 (.t 2), none⟩,
   ⟨some 13, .load 1 false (.t 12) [], none⟩,
   ⟨some 14, .bin .sub (.t 11) (.t 13), none⟩,
   ⟨some 15, .max (.t 9) (.t 14), none⟩,
   ⟨some 4, .mov (.t 15), none⟩] (some [4]))
 .ret))

theorem m90 : fmatch Try.prog Try.f90 2 [.tmp 4] v90 = true := by kernel_rfl

/-- steening/steeningref13.plus -/
def v91 : VC :=
 (.seq
 (.ops false [
   ⟨some 2, .box 2 2 (.t 0), none⟩,
   ⟨some 3, .box 3 2 (.t 1), none⟩,
   ⟨some 4, .alloc 4 [.int 0, .int 0], none⟩] (some [2, 3, 4]))
 (.seq
 (.ops false [
   ⟨some 5, .fld 0 (.t 2), none⟩,
   ⟨some 6, .load 1 false (.t 5) [], none⟩,
   ⟨some 7, .fld 0 (.t 3), none⟩,
   ⟨some 8, .load 1 false (.t 7) [], none⟩,
   ⟨some 9, .bin .add (.t 6) (.t 8), none⟩,
   ⟨some 10, .fld 1 (.t 2), none⟩,
   ⟨some 11, .load 1 false (.t 10) [], none⟩,
   ⟨some 12, .fld 1 (.t 3), none⟩,
   ⟨some 13, .load 1 false (.t 12) [], none⟩,
   ⟨some 14, .bin .add (.t 11) (.t 13), none⟩,
   ⟨some 15, .build [.int 0, .int 0] [(0, 1, .t 9), (1, 1, .t 14)], none⟩,
   ⟨none, .store 2 (.t 4) (.t 15) (some 4), none⟩] (some [4]))
 .ret))

theorem m91 : fmatch Try.prog Try.f91 2 [.cell 4 36] v91 = true := by kernel_rfl

/-- steening/steeningref13.Pence -/
def v92 : VC :=
 (.seq
 (.ops false [
   ⟨some 2, .box 2 6 (.t 0), none⟩,
   ⟨some 4, .alloc 4 [.int 0, .int 0], none⟩] (some [1, 2, 4]))
 (.seq
 (.ops false [
   ⟨some 8, .load 6 true (.t 2) [], none⟩,
   ⟨some 9, .mov (.t 1), none⟩,
   ⟨some 10, .call 110 [.t 8, .t 9], none⟩,
   ⟨some 11, .call 112 [.t 10, .k (.int 0)], none⟩,
   ⟨some 7, .mov (.t 11), none⟩,
   ⟨some 12, .ext (.t 7) 0, none⟩,
   ⟨some 13, .ext (.t 7) 1, none⟩,
   ⟨some 5, .alloc 5 [.int 0, .int 0], none⟩,
   ⟨none, .store 2 (.t 5) (.t 12) (some 5), none⟩,
   ⟨some 6, .mov (.t 13), none⟩] (some [4, 5]))
 (.seq
 (.ops false [
   ⟨some 14, .load 2 true (.t 5) [], none⟩,
   ⟨none, .store 2 (.t 4) (.t 14) (some 4), none⟩] (some [4]))
 .ret)))

theorem m92 : fmatch Try.prog Try.f92 2 [.cell 4 36] v92 = true := by kernel_rfl

/-- slices.ContainsFunc[steening/fines.matching,steening/api.FinePair] -/
def v96 : VC :=
 (.seq
 (.ops false [
   ⟨some 4, .mov (.k (.bool false)), none⟩] (some [0, 1]))
 (.seq
 (.ops false [
   ⟨some 5, .mov (.t 0), none⟩,
   ⟨some 6, .mov (.t 1), none⟩,
   ⟨some 7, .call 98 [.t 5, .t 6], none⟩,
   ⟨some 8, .bin .geq (.t 7) (.k (.int 0)), none⟩,
   ⟨some 4, .mov (.t 8), none⟩] (some [4]))
 .ret))

theorem m96 : fmatch Try.prog Try.f96 2 [.tmp 4] v96 = true := by kernel_rfl

/-- (steening/fines.matching).owed$2 -/
def v97 : VC :=
 (.seq
 (.ops false [
   ⟨some 2, .box 2 2 (.t 0), none⟩,
   ⟨some 3, .mov (.k (.bool false)), none⟩] (some [1, 2]))
 (.seq
 (.ops false [
   ⟨some 4, .fld 0 (.t 2), none⟩,
   ⟨some 5, .load 1 false (.t 4) [], none⟩,
   ⟨some 6, .load 1 false (.t 1) [], none⟩,
   ⟨some 7, .bin .eql (.t 5) (.t 6), none⟩,
   ⟨some 3, .mov (.t 7), none⟩] (some [3]))
 .ret))

theorem m97 : fmatch Try.prog Try.f97 2 [.tmp 3] v97 = true := by kernel_rfl

/-- slices.IndexFunc[steening/fines.matching,steening/api.FinePair] -/
def v98 : VC :=
 (.seq
 (.ops false [
   ⟨some 4, .mov (.k (.int 0)), none⟩] (some [0, 1]))
 (.seq
 (.seq
 (.ops false [
   ⟨some 6, .mov (.t 0), none⟩,
   ⟨some 7, .len (.t 6), none⟩,
   ⟨some 8, .mov (.k (.int 0)), none⟩] (some [0, 1, 7, 8]))
 (.block 0
  (.loop
   (.seq
   (.ops false [
     ⟨some 9, .bin .lss (.t 8) (.t 7), none⟩] (some [0, 1, 7, 8, 9]))
   (.seq
   (.cond (.t 9)
    .skip
    (.exit 0))
   (.seq
   (.block 1
    (.seq
    (.ops false [
      ⟨some 10, .mov (.t 8), none⟩,
      ⟨some 5, .mov (.t 10), none⟩] (some [0, 1, 5, 7, 8]))
    (.seq
    (.ops false [
      ⟨some 11, .mov (.t 1), none⟩,
      ⟨some 12, .mov (.t 0), none⟩,
      ⟨some 13, .mov (.t 5), none⟩,
      ⟨some 14, .idx 2 (.t 12) (.t 13), none⟩,
      ⟨some 15, .load 2 true (.t 14) [], none⟩,
      ⟨some 16, .callv (.t 11) [.t 15], none⟩] (some [0, 1, 5, 7, 8, 16]))
    (.cond (.t 16)
     (.seq
     (.ops false [
       ⟨some 17, .mov (.t 5), none⟩,
       ⟨some 4, .mov (.t 17), none⟩] (some [4]))
     .ret)
     .skip))))
   (.ops false [
     ⟨some 18, .bin .add (.t 8) (.k (.int 1)), none⟩,
     ⟨some 8, .mov (.t 18), none⟩] (some [0, 1, 7, 8]))))))))
 (.seq
 (.ops false [
   ⟨some 4, .mov (.k (.int (-1))), none⟩] (some [4]))
 .ret)))

theorem m98 : fmatch Try.prog Try.f98 2 [.tmp 4] v98 = true := by kernel_rfl

/-- (steening/fines.matching).owed$3 -/
def v99 : VC :=
 (.seq
 (.ops false [
   ⟨some 2, .box 2 2 (.t 0), none⟩,
   ⟨some 3, .mov (.k (.bool false)), none⟩] (some [1, 2]))
 (.seq
 (.ops false [
   ⟨some 4, .fld 1 (.t 2), none⟩,
   ⟨some 5, .load 1 false (.t 4) [], none⟩,
   ⟨some 6, .load 1 false (.t 1) [], none⟩,
   ⟨some 7, .bin .eql (.t 5) (.t 6), none⟩,
   ⟨some 3, .mov (.t 7), none⟩] (some [3]))
 .ret))

theorem m99 : fmatch Try.prog Try.f99 2 [.tmp 3] v99 = true := by kernel_rfl

/-- steening/fines.book$1 -/
def v100 : VC :=
 (.seq
 (.ops false [
   ⟨some 1, .box 1 2 (.t 0), none⟩,
   ⟨some 2, .mov (.k (.int 0)), none⟩] (some [1]))
 (.seq
 (.ops false [
   ⟨some 3, .fld 0 (.t 1), none⟩,
   ⟨some 4, .load 1 false (.t 3) [], none⟩,
   ⟨some 2, .mov (.t 4), none⟩] (some [2]))
 .ret))

theorem m100 : fmatch Try.prog Try.f100 1 [.tmp 2] v100 = true := by kernel_rfl

/-- steening/fines.book$2 -/
def v101 : VC :=
 (.seq
 (.ops false [
   ⟨some 1, .box 1 2 (.t 0), none⟩,
   ⟨some 2, .mov (.k (.int 0)), none⟩] (some [1]))
 (.seq
 (.ops false [
   ⟨some 3, .fld 1 (.t 1), none⟩,
   ⟨some 4, .load 1 false (.t 3) [], none⟩,
   ⟨some 2, .mov (.t 4), none⟩] (some [2]))
 .ret))

theorem m101 : fmatch Try.prog Try.f101 1 [.tmp 2] v101 = true := by kernel_rfl

/-- steening/steeningref13.both -/
def v102 : VC :=
 (.seq
 (.ops false [
   ⟨some 4, .nils 4 2, none⟩,
   ⟨some 5, .mov (.k (.bool false)), none⟩] (some [0, 1]))
 (.seq
 (.ops false [
   ⟨some 6, .nils 6 2, none⟩] (some [0, 1, 6]))
 (.seq
 (.seq
 (.ops false [
   ⟨some 7, .mov (.k (.int 0)), none⟩] (some [0, 1, 6, 7]))
 (.block 0
  (.loop
   (.seq
   (.seq
   (.ops false [
     ⟨some 9, .mov (.t 7), none⟩,
     ⟨some 10, .mov (.t 0), none⟩,
     ⟨some 11, .len (.t 10), none⟩,
     ⟨some 12, .bin .lss (.t 9) (.t 11), none⟩] (some [0, 1, 6, 7, 12]))
   (.cond (.t 12)
    .skip
    (.exit 0)))
   (.seq
   (.block 1
    (.seq
    (.ops true [
      ⟨some 15, .mov (.t 0), none⟩,
      ⟨some 16, .mov (.t 7), none⟩,
      ⟨some 17, .idx 2 (.t 15) (.t 16), none⟩,
      ⟨some 18, .fld 0 (.t 17), none⟩,
      ⟨some 19, .load 1 false (.t 18) [8], none⟩,
      ⟨some 20, .mov (.t 1), none⟩,
      ⟨some 21, .mov (.t 7), none⟩,
      ⟨some 22, .idx 2 (.t 20) (.t 21), none⟩,
      ⟨some 23, .fld 0 (.t 22), none⟩,
      ⟨some 24, .load 1 false (.t 23) [8], none⟩,
      ⟨some 25, .max (.t 19) (.t 24), none⟩,
      ⟨some 26, .mov (.t 0), none⟩,
      ⟨some 27, .mov (.t 7), none⟩,
      ⟨some 28, .idx 2 (.t 26) (.t 27), none⟩,
      ⟨some 29, .fld 1 (.t 28), none⟩,
      ⟨some 30, .load 1 false (.t 29) [8], none⟩,
      ⟨some 31, .mov (.t 1), none⟩,
      ⟨some 32, .mov (.t 7), none⟩,
      ⟨some 33, .idx 2 (.t 31) (.t 32), none⟩,
      ⟨some 34, .fld 1 (.t 33), none⟩,
      ⟨some 35, .load 1 false (.t 34) [8], none⟩,
      ⟨some 36, .min (.t 30) (.t 35), none⟩,
      ⟨some 37, .build [.int 0, .int 0] [(0, 1, .t 25), (1, 1, .t 36)], none⟩,
      ⟨some 8, .alloc 8 [.int 0, .int 0], none⟩,
      ⟨none, .store 2 (.t 8) (.t 37) (some 8), none⟩] (some [0, 1, 6, 7, 8]))
    (.seq
    (.seq
    (.ops false [
      ⟨some 38, .fld 0 (.t 8), none⟩,
      ⟨some 39, .load 1 false (.t 38) [], none⟩,
      ⟨some 40, .fld 1 (.t 8), none⟩,
      ⟨some 41, .load 1 false (.t 40) [], none⟩,
      ⟨some 42, .bin .gtr (.t 39) (.t 41), none⟩] (some [0, 1, 6, 7, 8, 42]))
    (.cond (.t 42)
     (.seq
     (.ops false [
       ⟨some 4, .nils 502 2, none⟩,
       ⟨some 5, .mov (.k (.bool false)), none⟩] (some [4, 5]))
     .ret)
     .skip))
    (.ops false [
      ⟨some 43, .mov (.t 6), none⟩,
      ⟨some 44, .load 2 true (.t 8) [], none⟩,
      ⟨some 45, .bslice 2 [.t 44], none⟩,
      ⟨some 46, .app 6 2 16 (.t 43) (.t 45), none⟩,
      ⟨some 6, .mov (.t 46), none⟩] (some [0, 1, 6, 7])))))
   (.ops false [
     ⟨some 13, .mov (.t 7), none⟩,
     ⟨some 14, .bin .add (.t 13) (.k (.int 1)), none⟩,
     ⟨some 7, .mov (.t 14), none⟩] (some [0, 1, 6, 7])))))))
 (.seq
 (.ops false [
   ⟨some 47, .mov (.t 6), none⟩,
   ⟨some 4, .mov (.t 47), none⟩,
   ⟨some 5, .mov (.k (.bool true)), none⟩] (some [4, 5]))
 .ret))))

theorem m102 : fmatch Try.prog Try.f102 2 [.tmp 4, .tmp 5] v102 = true := by kernel_rfl

/-- steening/knots.Cord -/
def v103 : VC :=
 (.seq
 (.ops false [
   ⟨some 2, .box 2 4 (.t 0), none⟩,
   ⟨some 4, .alloc 4 [.int 0, .int 0], none⟩,
   ⟨some 5, .mov (.k (.int 0)), none⟩] (some [1, 2, 4]))
 (.seq
 (.seq
 (.ops true [
   ⟨some 7, .load 4 true (.t 2) [], none⟩,
   ⟨some 8, .load 4 true (.t 2) [], none⟩,
   ⟨some 9, .mov (.t 1), none⟩,
   ⟨some 10, .call 116 [.t 8, .t 9], none⟩,
   ⟨some 11, .call 115 [.t 7, .t 10], none⟩,
   ⟨some 6, .mov (.t 11), none⟩] (some [1, 2, 4, 6]))
 (.seq
 (.ops false [
   ⟨some 12, .mov (.t 6), none⟩,
   ⟨some 13, .bin .neq (.t 12) (.k (.int 0)), none⟩] (some [1, 2, 4, 6, 13]))
 (.cond (.t 13)
  (.seq
  (.ops false [
    ⟨some 14, .build [.int 0, .int 0] [], none⟩,
    ⟨some 15, .mov (.t 6), none⟩,
    ⟨none, .store 2 (.t 4) (.t 14) (some 4), none⟩,
    ⟨some 5, .mov (.t 15), none⟩] (some [4, 5]))
  .ret)
  .skip)))
 (.seq
 (.ops true [
   ⟨some 16, .fld 0 (.t 2), none⟩,
   ⟨some 17, .load 1 false (.t 16) [4], none⟩,
   ⟨some 18, .load 4 true (.t 2) [4], none⟩,
   ⟨some 19, .call 118 [.t 18], none⟩,
   ⟨some 20, .mov (.t 1), none⟩,
   ⟨some 21, .idx 1 (.t 19) (.t 20), none⟩,
   ⟨some 22, .load 1 false (.t 21) [4], none⟩,
   ⟨some 23, .call 117 [.t 17, .t 22], none⟩,
   ⟨none, .store 2 (.t 4) (.t 23) (some 4), none⟩,
   ⟨some 5, .mov (.k (.int 0)), none⟩] (some [4, 5]))
 .ret)))

theorem m103 : fmatch Try.prog Try.f103 2 [.cell 4 36, .tmp 5] v103 = true := by kernel_rfl

/-- steening/knots.Check$1 -/
def v104 : VC :=
 (.seq
 (.ops false [
   ⟨some 3, .mov (.k (.bool false)), none⟩] (some [0, 1]))
 (.seq
 (.ops false [
   ⟨some 4, .load 4 true (.t 1) [], none⟩,
   ⟨some 5, .mov (.t 0), none⟩,
   ⟨some 6, .call 105 [.t 4, .t 5], none⟩,
   ⟨some 7, .not (.t 6), none⟩,
   ⟨some 3, .mov (.t 7), none⟩] (some [3]))
 .ret))

theorem m104 : fmatch Try.prog Try.f104 2 [.tmp 3] v104 = true := by kernel_rfl

/-- steening/knots.isCord -/
def v105 : VC :=
 (.seq
 (.ops false [
   ⟨some 2, .box 2 4 (.t 0), none⟩,
   ⟨some 4, .mov (.k (.bool false)), none⟩] (some [1, 2]))
 (.seq
 (.ops false [
   ⟨some 6, .mkf 119 [.t 2], none⟩,
   ⟨some 5, .mov (.t 6), none⟩] (some [1, 2, 5]))
 (.seq
 (.ops false [
   ⟨some 7, .mov (.t 1), none⟩,
   ⟨some 8, .len (.t 7), none⟩,
   ⟨some 9, .fld 1 (.t 2), none⟩,
   ⟨some 10, .load 1 false (.t 9) [], none⟩,
   ⟨some 11, .bin .eql (.t 8) (.t 10), none⟩,
   ⟨some 12, .mov (.t 11), none⟩,
   ⟨some 13, .mov (.t 1), some (12, true)⟩,
   ⟨some 14, .mov (.t 5), some (12, true)⟩,
   ⟨some 15, .call 120 [.t 13, .t 14], some (12, true)⟩,
   ⟨some 16, .not (.t 15), some (12, true)⟩,
   ⟨some 17, .pick (.t 12) (.t 16) (.k (.bool false)), none⟩,
   ⟨some 4, .mov (.t 17), none⟩] (some [4]))
 .ret)))

theorem m105 : fmatch Try.prog Try.f105 2 [.tmp 4] v105 = true := by kernel_rfl

/-- steening/knots.within -/
def v106 : VC :=
 (.seq
 (.ops false [
   ⟨some 6, .mov (.k (.bool false)), none⟩] (some [0, 1, 2]))
 (.seq
 (.ops false [
   ⟨some 7, .mov (.t 1), none⟩,
   ⟨some 8, .mov (.t 0), none⟩,
   ⟨some 9, .bin .leq (.t 7) (.t 8), none⟩,
   ⟨some 10, .mov (.t 9), none⟩,
   ⟨some 11, .mov (.t 0), some (10, true)⟩,
   ⟨some 12, .mov (.t 2), some (10, true)⟩,
   ⟨some 13, .bin .leq (.t 11) (.t 12), some (10, true)⟩,
   ⟨some 14, .pick (.t 10) (.t 13) (.k (.bool false)), none⟩,
   ⟨some 6, .mov (.t 14), none⟩] (some [6]))
 .ret))

theorem m106 : fmatch Try.prog Try.f106 3 [.tmp 6] v106 = true := by kernel_rfl

/-- slices.ContainsFunc[[][]steening/api.Span,[]steening/api.Span] -/
def v107 : VC :=
 (.seq
 (.ops false [
   ⟨some 4, .mov (.k (.bool false)), none⟩] (some [0, 1]))
 (.seq
 (.ops false [
   ⟨some 5, .mov (.t 0), none⟩,
   ⟨some 6, .mov (.t 1), none⟩,
   ⟨some 7, .call 121 [.t 5, .t 6], none⟩,
   ⟨some 8, .bin .geq (.t 7) (.k (.int 0)), none⟩,
   ⟨some 4, .mov (.t 8), none⟩] (some [4]))
 .ret))

theorem m107 : fmatch Try.prog Try.f107 2 [.tmp 4] v107 = true := by kernel_rfl

/-- slices.IndexFunc[[]steening/api.FineEntry,steening/api.FineEntry] -/
def v108 : VC :=
 (.seq
 (.ops false [
   ⟨some 4, .mov (.k (.int 0)), none⟩] (some [0, 1]))
 (.seq
 (.seq
 (.ops false [
   ⟨some 6, .mov (.t 0), none⟩,
   ⟨some 7, .len (.t 6), none⟩,
   ⟨some 8, .mov (.k (.int 0)), none⟩] (some [0, 1, 7, 8]))
 (.block 0
  (.loop
   (.seq
   (.ops false [
     ⟨some 9, .bin .lss (.t 8) (.t 7), none⟩] (some [0, 1, 7, 8, 9]))
   (.seq
   (.cond (.t 9)
    .skip
    (.exit 0))
   (.seq
   (.block 1
    (.seq
    (.ops false [
      ⟨some 10, .mov (.t 8), none⟩,
      ⟨some 5, .mov (.t 10), none⟩] (some [0, 1, 5, 7, 8]))
    (.seq
    (.ops false [
      ⟨some 11, .mov (.t 1), none⟩,
      ⟨some 12, .mov (.t 0), none⟩,
      ⟨some 13, .mov (.t 5), none⟩,
      ⟨some 14, .idx 3 (.t 12) (.t 13), none⟩,
      ⟨some 15, .load 3 true (.t 14) [], none⟩,
      ⟨some 16, .callv (.t 11) [.t 15], none⟩] (some [0, 1, 5, 7, 8, 16]))
    (.cond (.t 16)
     (.seq
     (.ops false [
       ⟨some 17, .mov (.t 5), none⟩,
       ⟨some 4, .mov (.t 17), none⟩] (some [4]))
     .ret)
     .skip))))
   (.ops false [
     ⟨some 18, .bin .add (.t 8) (.k (.int 1)), none⟩,
     ⟨some 8, .mov (.t 18), none⟩] (some [0, 1, 7, 8]))))))))
 (.seq
 (.ops false [
   ⟨some 4, .mov (.k (.int (-1))), none⟩] (some [4]))
 .ret)))

theorem m108 : fmatch Try.prog Try.f108 2 [.tmp 4] v108 = true := by kernel_rfl

/-- steening/steeningref11.Check -/
def v109 : VC :=
 (.seq
 (.ops false [
   ⟨some 1, .box 1 4 (.t 0), none⟩,
   ⟨some 2, .mov (.k (.int 0)), none⟩] (some [1]))
 (.seq
 (.seq
 (.ops false [
   ⟨some 4, .fld 0 (.t 1), none⟩,
   ⟨some 5, .load 1 false (.t 4) [], none⟩,
   ⟨some 6, .call 122 [.t 5, .k (.int 2), .k (.int 10)], none⟩,
   ⟨some 7, .not (.t 6), none⟩,
   ⟨some 8, .mov (.t 7), none⟩,
   ⟨some 9, .fld 1 (.t 1), some (8, false)⟩,
   ⟨some 10, .load 1 false (.t 9) [], some (8, false)⟩,
   ⟨some 11, .call 122 [.t 10, .k (.int 1), .k (.int 4)], some (8, false)⟩,
   ⟨some 12, .not (.t 11), some (8, false)⟩,
   ⟨some 13, .pick (.t 8) (.k (.bool true)) (.t 12), none⟩,
   ⟨some 14, .mov (.t 13), none⟩,
   ⟨some 15, .fld 2 (.t 1), some (14, false)⟩,
   ⟨some 16, .load 1 false (.t 15) [], some (14, false)⟩,
   ⟨some 17, .len (.t 16), some (14, false)⟩,
   ⟨some 18, .bin .gtr (.t 17) (.k (.int 4)), some (14, false)⟩,
   ⟨some 19, .pick (.t 14) (.k (.bool true)) (.t 18), none⟩,
   ⟨some 20, .mov (.t 19), none⟩,
   ⟨some 21, .load 4 true (.t 1) [], some (20, false)⟩,
   ⟨some 22, .fld 3 (.t 1), some (20, false)⟩,
   ⟨some 23, .load 1 false (.t 22) [], some (20, false)⟩,
   ⟨some 24, .call 123 [.t 21, .t 23], some (20, false)⟩,
   ⟨some 25, .not (.t 24), some (20, false)⟩,
   ⟨some 26, .pick (.t 20) (.k (.bool true)) (.t 25), none⟩] (some [1, 26]))
 (.cond (.t 26)
  (.seq
  (.ops false [
    ⟨some 2, .mov (.k (.int 110)), none⟩] (some [2]))
  .ret)
  .skip))
 (.seq
 (.seq
 (.ops false [
   ⟨some 3, .mov (.k (.int 0)), none⟩] (some [1, 3]))
 (.block 0
  (.loop
   (.seq
   (.seq
   (.ops false [
     ⟨some 27, .mov (.t 3), none⟩,
     ⟨some 28, .fld 2 (.t 1), none⟩,
     ⟨some 29, .load 1 false (.t 28) [], none⟩,
     ⟨some 30, .len (.t 29), none⟩,
     ⟨some 31, .bin .lss (.t 27) (.t 30), none⟩] (some [1, 3, 31]))
   (.cond (.t 31)
    .skip
    (.exit 0)))
   (.seq
   (.block 1
    (.seq
    (.ops true [
      ⟨some 34, .load 4 true (.t 1) [], none⟩,
      ⟨some 35, .fld 2 (.t 1), none⟩,
      ⟨some 36, .load 1 false (.t 35) [], none⟩,
      ⟨some 37, .mov (.t 3), none⟩,
      ⟨some 38, .idx 1 (.t 36) (.t 37), none⟩,
      ⟨some 39, .load 1 false (.t 38) [], none⟩,
      ⟨some 40, .call 123 [.t 34, .t 39], none⟩,
      ⟨some 41, .not (.t 40), none⟩] (some [1, 3, 41]))
    (.cond (.t 41)
     (.seq
     (.ops false [
       ⟨some 2, .mov (.k (.int 110)), none⟩] (some [2]))
     .ret)
     .skip)))
   (.ops false [
     ⟨some 32, .mov (.t 3), none⟩,
     ⟨some 33, .bin .add (.t 32) (.k (.int 1)), none⟩,
     ⟨some 3, .mov (.t 33), none⟩] (some [1, 3])))))))
 (.seq
 (.ops false [
   ⟨some 2, .mov (.k (.int 0)), none⟩] (some [2]))
 .ret))))

theorem m109 : fmatch Try.prog Try.f109 1 [.tmp 2] v109 = true := by kernel_rfl

/-- steening/steeningref13.knots -/
def v110 : VC :=
 (.seq
 (.ops false [
   ⟨some 2, .box 2 6 (.t 0), none⟩,
   ⟨some 4, .alloc 4 [.int 0, .int 0, .sl 1 [] .full, .sl 2 [] .full], none⟩] (some [1, 2, 4]))
 (.seq
 (.ops false [
   ⟨some 5, .fld 0 (.t 2), none⟩,
   ⟨some 6, .load 1 false (.t 5) [], none⟩,
   ⟨some 7, .fld 1 (.t 2), none⟩,
   ⟨some 8, .load 1 false (.t 7) [], none⟩,
   ⟨some 9, .mov (.t 1), none⟩,
   ⟨some 10, .build [.int 0, .int 0, .sl 1 [] .sh, .sl 2 [] .sh] [(0, 1, .t 6), (1, 1, .t 8), (3, 1, .t 9)], none⟩,
   ⟨none, .store 4 (.t 4) (.t 10) (some 4), none⟩] (some [4]))
 .ret))

theorem m110 : fmatch Try.prog Try.f110 2 [.cell 4 102] v110 = true := by kernel_rfl

/-- steening/steeningref11.Cord -/
def v112 : VC :=
 (.seq
 (.ops false [
   ⟨some 2, .box 2 4 (.t 0), none⟩,
   ⟨some 4, .alloc 4 [.int 0, .int 0], none⟩,
   ⟨some 5, .mov (.k (.int 0)), none⟩] (some [1, 2, 4]))
 (.seq
 (.seq
 (.ops true [
   ⟨some 11, .load 4 true (.t 2) [], none⟩,
   ⟨some 12, .load 4 true (.t 2) [], none⟩,
   ⟨some 13, .mov (.t 1), none⟩,
   ⟨some 14, .call 125 [.t 12, .t 13], none⟩,
   ⟨some 15, .call 124 [.t 11, .t 14], none⟩,
   ⟨some 6, .mov (.t 15), none⟩] (some [1, 2, 4, 6]))
 (.seq
 (.ops false [
   ⟨some 16, .mov (.t 6), none⟩,
   ⟨some 17, .bin .neq (.t 16) (.k (.int 0)), none⟩] (some [1, 2, 4, 6, 17]))
 (.cond (.t 17)
  (.seq
  (.ops false [
    ⟨some 18, .build [.int 0, .int 0] [], none⟩,
    ⟨some 19, .mov (.t 6), none⟩,
    ⟨none, .store 2 (.t 4) (.t 18) (some 4), none⟩,
    ⟨some 5, .mov (.t 19), none⟩] (some [4, 5]))
  .ret)
  .skip)))
 (.seq
 (.ops false [
   ⟨some 20, .load 4 true (.t 2) [], none⟩,
   ⟨some 21, .mov (.t 1), none⟩,
   ⟨some 22, .call 126 [.t 20, .t 21], none⟩,
   ⟨some 7, .mov (.t 22), none⟩] (some [2, 4, 7]))
 (.seq
 (.ops false [
   ⟨some 8, .nils 8 1, none⟩,
   ⟨some 9, .nils 9 1, none⟩] (some [2, 4, 7, 8, 9]))
 (.seq
 (.seq
 (.ops false [
   ⟨some 10, .mov (.k (.int 0)), none⟩] (some [2, 4, 7, 8, 9, 10]))
 (.block 0
  (.loop
   (.seq
   (.seq
   (.ops false [
     ⟨some 23, .mov (.t 10), none⟩,
     ⟨some 24, .mov (.t 7), none⟩,
     ⟨some 25, .len (.t 24), none⟩,
     ⟨some 26, .bin .lss (.t 23) (.t 25), none⟩] (some [2, 4, 7, 8, 9, 10, 26]))
   (.cond (.t 26)
    .skip
    (.exit 0)))
   (.seq
   (.block 1
    (.ops true [
      ⟨some 29, .mov (.t 8), none⟩,
      ⟨some 30, .mov (.t 7), none⟩,
      ⟨some 31, .mov (.t 10), none⟩,
      ⟨some 32, .idx 2 (.t 30) (.t 31), none⟩,
      ⟨some 33, .fld 0 (.t 32), none⟩,
      ⟨some 34, .load 1 false (.t 33) [], none⟩,
      ⟨some 35, .bslice 1 [.t 34], none⟩,
      ⟨some 36, .app 8 1 8 (.t 29) (.t 35), none⟩,
      ⟨some 37, .mov (.t 9), none⟩,
      ⟨some 38, .mov (.t 7), none⟩,
      ⟨some 39, .mov (.t 10), none⟩,
      ⟨some 40, .idx 2 (.t 38) (.t 39), none⟩,
      ⟨some 41, .fld 1 (.t 40), none⟩,
      ⟨some 42, .load 1 false (.t 41) [], none⟩,
      ⟨some 43, .bslice 1 [.t 42], none⟩,
      ⟨some 44, .app 9 1 8 (.t 37) (.t 43), none⟩,
      ⟨some 8, .mov (.t 36), none⟩,
      ⟨some 9, .mov (.t 44), none⟩] (some [2, 4, 7, 8, 9, 10])))
   (.ops false [
     ⟨some 27, .mov (.t 10), none⟩,
     ⟨some 28, .bin .add (.t 27) (.k (.int 1)), none⟩,
     ⟨some 10, .mov (.t 28), none⟩] (some [2, 4, 7, 8, 9, 10])))))))
 (.seq
 (.ops true [
   ⟨some 45, .load 4 true (.t 2) [4], none⟩,
   ⟨some 46, .mov (.t 8), none⟩,
   ⟨some 47, .call 127 [.t 45, .t 46], none⟩,
   ⟨some 48, .load 4 true (.t 2) [4], none⟩,
   ⟨some 49, .mov (.t 9), none⟩,
   ⟨some 50, .call 127 [.t 48, .t 49], none⟩,
   ⟨some 51, .build [.int 0, .int 0] [(0, 1, .t 47), (1, 1, .t 50)], none⟩,
   ⟨none, .store 2 (.t 4) (.t 51) (some 4), none⟩,
   ⟨some 5, .mov (.k (.int 0)), none⟩] (some [4, 5]))
 .ret))))))

theorem m112 : fmatch Try.prog Try.f112 2 [.cell 4 36, .tmp 5] v112 = true := by kernel_rfl

/-- steening/knots.ask -/
def v115 : VC :=
 (.seq
 (.ops false [
   ⟨some 2, .box 2 4 (.t 0), none⟩,
   ⟨some 4, .mov (.k (.int 0)), none⟩] (some [1, 2]))
 (.seq
 (.seq
 (.ops false [
   ⟨some 6, .load 4 true (.t 2) [], none⟩,
   ⟨some 7, .call 81 [.t 6], none⟩,
   ⟨some 5, .mov (.t 7), none⟩] (some [1, 5]))
 (.seq
 (.ops false [
   ⟨some 8, .mov (.t 5), none⟩,
   ⟨some 9, .bin .neq (.t 8) (.k (.int 0)), none⟩] (some [1, 5, 9]))
 (.cond (.t 9)
  (.seq
  (.ops false [
    ⟨some 10, .mov (.t 5), none⟩,
    ⟨some 4, .mov (.t 10), none⟩] (some [4]))
  .ret)
  .skip)))
 (.seq
 (.seq
 (.ops false [
   ⟨some 11, .mov (.t 1), none⟩,
   ⟨some 12, .not (.t 11), none⟩] (some [12]))
 (.cond (.t 12)
  (.seq
  (.ops false [
    ⟨some 4, .mov (.k (.int 1)), none⟩] (some [4]))
  .ret)
  .skip))
 (.seq
 (.ops false [
   ⟨some 4, .mov (.k (.int 0)), none⟩] (some [4]))
 .ret))))

theorem m115 : fmatch Try.prog Try.f115 2 [.tmp 4] v115 = true := by kernel_rfl

/-- steening/knots.has -/
def v116 : VC :=
 (.seq
 (.ops false [
   ⟨some 2, .box 2 4 (.t 0), none⟩,
   ⟨some 4, .mov (.k (.bool false)), none⟩] (some [1, 2]))
 (.seq
 (.ops false [
   ⟨some 5, .mov (.t 1), none⟩,
   ⟨some 6, .fld 2 (.t 2), none⟩,
   ⟨some 7, .load 1 false (.t 6) [], none⟩,
   ⟨some 8, .len (.t 7), none⟩,
   ⟨some 9, .call 106 [.t 5, .k (.int 0), .t 8], none⟩,
   ⟨some 4, .mov (.t 9), none⟩] (some [4]))
 .ret))

theorem m116 : fmatch Try.prog Try.f116 2 [.tmp 4] v116 = true := by kernel_rfl

/-- steening/knots.ends -/
def v117 : VC :=
 (.seq
 (.ops false [
   ⟨some 4, .alloc 4 [.int 0, .int 0], none⟩] (some [0, 1, 4]))
 (.seq
 (.ops false [
   ⟨some 5, .alloc 5 [.int 0, .int 0], none⟩] (some [0, 1, 4, 5]))
 (.seq
 (.seq
 (.ops false [
   ⟨some 8, .mov (.t 1), none⟩,
   ⟨some 9, .len (.t 8), none⟩,
   ⟨some 10, .mov (.k (.int 0)), none⟩] (some [0, 4, 5, 8, 9, 10]))
 (.block 0
  (.loop
   (.seq
   (.ops false [
     ⟨some 11, .bin .lss (.t 10) (.t 9), none⟩] (some [0, 4, 5, 8, 9, 10, 11]))
   (.seq
   (.cond (.t 11)
    .skip
    (.exit 0))
   (.seq
   (.block 1
    (.seq
    (.ops false [
      ⟨some 12, .idx 2 (.t 8) (.t 10), none⟩,
      ⟨some 13, .load 2 true (.t 12) [], none⟩,
      ⟨some 7, .alloc 7 [.int 0, .int 0], none⟩,
      ⟨none, .store 2 (.t 7) (.t 13) (some 7), none⟩] (some [0, 4, 5, 7, 8, 9, 10]))
    (.ops true [
      ⟨some 14, .mov (.t 0), none⟩,
      ⟨some 15, .fld 0 (.t 5), none⟩,
      ⟨some 16, .load 1 false (.t 15) [], none⟩,
      ⟨some 17, .fld 0 (.t 7), none⟩,
      ⟨some 18, .load 1 false (.t 17) [5], none⟩,
      ⟨some 19, .bslice 1 [.t 16, .t 18], none⟩,
      ⟨some 20, .call 128 [.t 14, .t 19], none⟩,
      ⟨some 21, .mov (.t 0), none⟩,
      ⟨some 22, .fld 1 (.t 5), none⟩,
      ⟨some 23, .load 1 false (.t 22) [], none⟩,
      ⟨some 24, .fld 1 (.t 7), none⟩,
      ⟨some 25, .load 1 false (.t 24) [5], none⟩,
      ⟨some 26, .bslice 1 [.t 23, .t 25], none⟩,
      ⟨some 27, .call 128 [.t 21, .t 26], none⟩,
      ⟨some 28, .build [.int 0, .int 0] [(0, 1, .t 20), (1, 1, .t 27)], none⟩,
      ⟨none, .store 2 (.t 5) (.t 28) (some 5), none⟩] (some [0, 4, 5, 8, 9, 10]))))
   (.ops false [
     ⟨some 29, .bin .add (.t 10) (.k (.int 1)), none⟩,
     ⟨some 10, .mov (.t 29), none⟩] (some [0, 4, 5, 8, 9, 10]))))))))
 (.seq
 (.ops false [
   ⟨some 30, .load 2 true (.t 5) [], none⟩,
   ⟨none, .store 2 (.t 4) (.t 30) (some 4), none⟩] (some [4]))
 .ret))))

theorem m117 : fmatch Try.prog Try.f117 2 [.cell 4 36] v117 = true := by kernel_rfl

/-- steening/knots.all -/
def v118 : VC :=
 (.seq
 (.ops false [
   ⟨some 1, .box 1 4 (.t 0), none⟩,
   ⟨some 2, .nils 2 1, none⟩] (some [1]))
 (.seq
 (.ops true [
   ⟨some 3, .fld 2 (.t 1), none⟩,
   ⟨some 4, .load 1 false (.t 3) [], none⟩,
   ⟨some 5, .fld 2 (.t 1), none⟩,
   ⟨some 6, .load 1 false (.t 5) [], none⟩,
   ⟨some 7, .len (.t 6), none⟩,
   ⟨some 8, .fld 2 (.t 1), none⟩,
   ⟨some 9, .load 1 false (.t 8) [], none⟩,
   ⟨some 10, .len (.t 9), none⟩,
   ⟨some 11, .sliceF 1 (.t 4) none (some (.t 7)) (some (.t 10)), none⟩,
   ⟨some 12, .fld 3 (.t 1), none⟩,
   ⟨some 13, .load 1 false (.t 12) [], none⟩,
   ⟨some 14, .bslice 1 [.t 13], none⟩,
   ⟨some 15, .app 15 1 24 (.t 11) (.t 14), none⟩,
   ⟨some 2, .mov (.t 15), none⟩] (some [2]))
 .ret))

theorem m118 : fmatch Try.prog Try.f118 1 [.tmp 2] v118 = true := by kernel_rfl

/-- steening/knots.isCord$1 -/
def v119 : VC :=
 (.seq
 (.ops false [
   ⟨some 2, .box 2 2 (.t 0), none⟩,
   ⟨some 3, .mov (.k (.bool false)), none⟩] (some [1, 2]))
 (.seq
 (.ops false [
   ⟨some 4, .fld 0 (.t 2), none⟩,
   ⟨some 5, .load 1 false (.t 4) [], none⟩,
   ⟨some 6, .fld 1 (.t 2), none⟩,
   ⟨some 7, .load 1 false (.t 6) [], none⟩,
   ⟨some 8, .call 106 [.t 5, .k (.int 0), .t 7], none⟩,
   ⟨some 9, .not (.t 8), none⟩,
   ⟨some 10, .mov (.t 9), none⟩,
   ⟨some 11, .fld 1 (.t 2), some (10, false)⟩,
   ⟨some 12, .load 1 false (.t 11) [], some (10, false)⟩,
   ⟨some 13, .fld 0 (.t 1), some (10, false)⟩,
   ⟨some 14, .load 1 false (.t 13) [], some (10, false)⟩,
   ⟨some 15, .bin .geq (.t 12) (.t 14), some (10, false)⟩,
   ⟨some 16, .pick (.t 10) (.k (.bool true)) (.t 15), none⟩,
   ⟨some 3, .mov (.t 16), none⟩] (some [3]))
 .ret))

theorem m119 : fmatch Try.prog Try.f119 2 [.tmp 3] v119 = true := by kernel_rfl

/-- slices.ContainsFunc[[]steening/api.Span,steening/api.Span] -/
def v120 : VC :=
 (.seq
 (.ops false [
   ⟨some 4, .mov (.k (.bool false)), none⟩] (some [0, 1]))
 (.seq
 (.ops false [
   ⟨some 5, .mov (.t 0), none⟩,
   ⟨some 6, .mov (.t 1), none⟩,
   ⟨some 7, .call 129 [.t 5, .t 6], none⟩,
   ⟨some 8, .bin .geq (.t 7) (.k (.int 0)), none⟩,
   ⟨some 4, .mov (.t 8), none⟩] (some [4]))
 .ret))

theorem m120 : fmatch Try.prog Try.f120 2 [.tmp 4] v120 = true := by kernel_rfl

/-- slices.IndexFunc[[][]steening/api.Span,[]steening/api.Span] -/
def v121 : VC :=
 (.seq
 (.ops false [
   ⟨some 4, .mov (.k (.int 0)), none⟩] (some [0, 1]))
 (.seq
 (.seq
 (.ops false [
   ⟨some 6, .mov (.t 0), none⟩,
   ⟨some 7, .len (.t 6), none⟩,
   ⟨some 8, .mov (.k (.int 0)), none⟩] (some [0, 1, 7, 8]))
 (.block 0
  (.loop
   (.seq
   (.ops false [
     ⟨some 9, .bin .lss (.t 8) (.t 7), none⟩] (some [0, 1, 7, 8, 9]))
   (.seq
   (.cond (.t 9)
    .skip
    (.exit 0))
   (.seq
   (.block 1
    (.seq
    (.ops false [
      ⟨some 10, .mov (.t 8), none⟩,
      ⟨some 5, .mov (.t 10), none⟩] (some [0, 1, 5, 7, 8]))
    (.seq
    (.ops false [
      ⟨some 11, .mov (.t 1), none⟩,
      ⟨some 12, .mov (.t 0), none⟩,
      ⟨some 13, .mov (.t 5), none⟩,
      ⟨some 14, .idx 1 (.t 12) (.t 13), none⟩,
      ⟨some 15, .load 1 false (.t 14) [], none⟩,
      ⟨some 16, .callv (.t 11) [.t 15], none⟩] (some [0, 1, 5, 7, 8, 16]))
    (.cond (.t 16)
     (.seq
     (.ops false [
       ⟨some 17, .mov (.t 5), none⟩,
       ⟨some 4, .mov (.t 17), none⟩] (some [4]))
     .ret)
     .skip))))
   (.ops false [
     ⟨some 18, .bin .add (.t 8) (.k (.int 1)), none⟩,
     ⟨some 8, .mov (.t 18), none⟩] (some [0, 1, 7, 8]))))))))
 (.seq
 (.ops false [
   ⟨some 4, .mov (.k (.int (-1))), none⟩] (some [4]))
 .ret)))

theorem m121 : fmatch Try.prog Try.f121 2 [.tmp 4] v121 = true := by kernel_rfl

/-- steening/steeningref11.within -/
def v122 : VC :=
 (.seq
 (.ops false [
   ⟨some 6, .mov (.k (.bool false)), none⟩] (some [0, 1, 2]))
 (.seq
 (.ops false [
   ⟨some 7, .mov (.t 0), none⟩,
   ⟨some 8, .mov (.t 1), none⟩,
   ⟨some 9, .mov (.t 2), none⟩,
   ⟨some 10, .call 33 [.t 7, .t 8, .t 9], none⟩,
   ⟨some 6, .mov (.t 10), none⟩] (some [6]))
 .ret))

theorem m122 : fmatch Try.prog Try.f122 3 [.tmp 6] v122 = true := by kernel_rfl

/-- steening/steeningref11.isCord -/
def v123 : VC :=
 (.seq
 (.ops false [
   ⟨some 2, .box 2 4 (.t 0), none⟩,
   ⟨some 4, .mov (.k (.bool false)), none⟩] (some [1, 2]))
 (.seq
 (.seq
 (.ops false [
   ⟨some 6, .mov (.t 1), none⟩,
   ⟨some 7, .len (.t 6), none⟩,
   ⟨some 8, .fld 1 (.t 2), none⟩,
   ⟨some 9, .load 1 false (.t 8) [], none⟩,
   ⟨some 10, .bin .neq (.t 7) (.t 9), none⟩] (some [1, 2, 10]))
 (.cond (.t 10)
  (.seq
  (.ops false [
    ⟨some 4, .mov (.k (.bool false)), none⟩] (some [4]))
  .ret)
  .skip))
 (.seq
 (.seq
 (.ops false [
   ⟨some 5, .mov (.k (.int 0)), none⟩] (some [1, 2, 5]))
 (.block 0
  (.loop
   (.seq
   (.seq
   (.ops false [
     ⟨some 11, .mov (.t 5), none⟩,
     ⟨some 12, .mov (.t 1), none⟩,
     ⟨some 13, .len (.t 12), none⟩,
     ⟨some 14, .bin .lss (.t 11) (.t 13), none⟩] (some [1, 2, 5, 14]))
   (.cond (.t 14)
    .skip
    (.exit 0)))
   (.seq
   (.block 1
    (.seq
    (.ops true [
      ⟨some 17, .mov (.t 1), none⟩,
      ⟨some 18, .mov (.t 5), none⟩,
      ⟨some 19, .idx 2 (.t 17) (.t 18), none⟩,
      ⟨some 20, .fld 1 (.t 19), none⟩,
      ⟨some 21, .load 1 false (.t 20) [], none⟩,
      ⟨some 22, .fld 0 (.t 2), none⟩,
      ⟨some 23, .load 1 false (.t 22) [], none⟩,
      ⟨some 24, .bin .sub (.t 23) (.k (.int 1)), none⟩,
      ⟨some 25, .call 122 [.t 21, .k (.int 0), .t 24], none⟩,
      ⟨some 26, .not (.t 25), none⟩,
      ⟨some 27, .mov (.t 26), none⟩,
      ⟨some 28, .mov (.t 1), some (27, false)⟩,
      ⟨some 29, .mov (.t 5), some (27, false)⟩,
      ⟨some 30, .idx 2 (.t 28) (.t 29), some (27, false)⟩,
      ⟨some 31, .fld 0 (.t 30), some (27, false)⟩,
      ⟨some 32, .load 1 false (.t 31) [], some (27, false)⟩,
      ⟨some 33, .mov (.t 1), some (27, false)⟩,
      ⟨some 34, .mov (.t 5), some (27, false)⟩,
      ⟨some 35, .idx 2 (.t 33) (.t 34), some (27, false)⟩,
      ⟨some 36, .fld 1 (.t 35), some (27, false)⟩,
      ⟨some 37, .load 1 false (.t 36) [], some (27, false)⟩,
      ⟨some 38, .call 122 [.t 32, .k (.int 0), .t 37], some (27, false)⟩,
      ⟨some 39, .not (.t 38), some (27, false)⟩,
      ⟨some 40, .pick (.t 27) (.k (.bool true)) (.t 39), none⟩] (some [1, 2, 5, 40]))
    (.cond (.t 40)
     (.seq
     (.ops false [
       ⟨some 4, .mov (.k (.bool false)), none⟩] (some [4]))
     .ret)
     .skip)))
   (.ops false [
     ⟨some 15, .mov (.t 5), none⟩,
     ⟨some 16, .bin .add (.t 15) (.k (.int 1)), none⟩,
     ⟨some 5, .mov (.t 16), none⟩] (some [1, 2, 5])))))))
 (.seq
 (.ops false [
   ⟨some 4, .mov (.k (.bool true)), none⟩] (some [4]))
 .ret))))

theorem m123 : fmatch Try.prog Try.f123 2 [.tmp 4] v123 = true := by kernel_rfl

/-- steening/steeningref11.ask -/
def v124 : VC :=
 (.seq
 (.ops false [
   ⟨some 2, .box 2 4 (.t 0), none⟩,
   ⟨some 4, .mov (.k (.int 0)), none⟩] (some [1, 2]))
 (.seq
 (.seq
 (.ops false [
   ⟨some 6, .load 4 true (.t 2) [], none⟩,
   ⟨some 7, .call 109 [.t 6], none⟩,
   ⟨some 5, .mov (.t 7), none⟩] (some [1, 5]))
 (.seq
 (.ops false [
   ⟨some 8, .mov (.t 5), none⟩,
   ⟨some 9, .bin .neq (.t 8) (.k (.int 0)), none⟩] (some [1, 5, 9]))
 (.cond (.t 9)
  (.seq
  (.ops false [
    ⟨some 10, .mov (.t 5), none⟩,
    ⟨some 4, .mov (.t 10), none⟩] (some [4]))
  .ret)
  .skip)))
 (.seq
 (.seq
 (.ops false [
   ⟨some 11, .mov (.t 1), none⟩,
   ⟨some 12, .not (.t 11), none⟩] (some [12]))
 (.cond (.t 12)
  (.seq
  (.ops false [
    ⟨some 4, .mov (.k (.int 1)), none⟩] (some [4]))
  .ret)
  .skip))
 (.seq
 (.ops false [
   ⟨some 4, .mov (.k (.int 0)), none⟩] (some [4]))
 .ret))))

theorem m124 : fmatch Try.prog Try.f124 2 [.tmp 4] v124 = true := by kernel_rfl

/-- steening/steeningref11.IsCord -/
def v125 : VC :=
 (.seq
 (.ops false [
   ⟨some 2, .box 2 4 (.t 0), none⟩,
   ⟨some 4, .mov (.k (.bool false)), none⟩] (some [1, 2]))
 (.seq
 (.ops false [
   ⟨some 5, .mov (.t 1), none⟩,
   ⟨some 6, .fld 2 (.t 2), none⟩,
   ⟨some 7, .load 1 false (.t 6) [], none⟩,
   ⟨some 8, .len (.t 7), none⟩,
   ⟨some 9, .call 122 [.t 5, .k (.int 0), .t 8], none⟩,
   ⟨some 4, .mov (.t 9), none⟩] (some [4]))
 .ret))

theorem m125 : fmatch Try.prog Try.f125 2 [.tmp 4] v125 = true := by kernel_rfl

/-- steening/steeningref11.CordOf -/
def v126 : VC :=
 (.seq
 (.ops false [
   ⟨some 2, .box 2 4 (.t 0), none⟩,
   ⟨some 4, .nils 4 2, none⟩] (some [1, 2]))
 (.seq
 (.seq
 (.ops false [
   ⟨some 5, .mov (.t 1), none⟩,
   ⟨some 6, .fld 2 (.t 2), none⟩,
   ⟨some 7, .load 1 false (.t 6) [], none⟩,
   ⟨some 8, .len (.t 7), none⟩,
   ⟨some 9, .bin .eql (.t 5) (.t 8), none⟩] (some [1, 2, 9]))
 (.cond (.t 9)
  (.seq
  (.ops false [
    ⟨some 10, .fld 3 (.t 2), none⟩,
    ⟨some 11, .load 1 false (.t 10) [], none⟩,
    ⟨some 4, .mov (.t 11), none⟩] (some [4]))
  .ret)
  .skip))
 (.seq
 (.ops false [
   ⟨some 12, .fld 2 (.t 2), none⟩,
   ⟨some 13, .load 1 false (.t 12) [], none⟩,
   ⟨some 14, .mov (.t 1), none⟩,
   ⟨some 15, .idx 1 (.t 13) (.t 14), none⟩,
   ⟨some 16, .load 1 false (.t 15) [], none⟩,
   ⟨some 4, .mov (.t 16), none⟩] (some [4]))
 .ret)))

theorem m126 : fmatch Try.prog Try.f126 2 [.tmp 4] v126 = true := by kernel_rfl

/-- steening/steeningref11.ReadOf -/
def v127 : VC :=
 (.seq
 (.ops false [
   ⟨some 2, .box 2 4 (.t 0), none⟩,
   ⟨some 4, .mov (.k (.int 0)), none⟩] (some [1, 2]))
 (.seq
 (.ops false [
   ⟨some 5, .mov (.k (.int 0)), none⟩] (some [1, 2, 5]))
 (.seq
 (.seq
 (.ops false [
   ⟨some 6, .mov (.k (.int 0)), none⟩] (some [1, 2, 5, 6]))
 (.block 0
  (.loop
   (.seq
   (.seq
   (.ops false [
     ⟨some 7, .mov (.t 6), none⟩,
     ⟨some 8, .mov (.t 1), none⟩,
     ⟨some 9, .len (.t 8), none⟩,
     ⟨some 10, .bin .lss (.t 7) (.t 9), none⟩] (some [1, 2, 5, 6, 10]))
   (.cond (.t 10)
    .skip
    (.exit 0)))
   (.seq
   (.block 1
    (.ops true [
      ⟨some 13, .mov (.t 5), none⟩,
      ⟨some 14, .fld 0 (.t 2), none⟩,
      ⟨some 15, .load 1 false (.t 14) [], none⟩,
      ⟨some 16, .bin .mul (.t 13) (.t 15), none⟩,
      ⟨some 17, .mov (.t 1), none⟩,
      ⟨some 18, .mov (.t 6), none⟩,
      ⟨some 19, .idx 1 (.t 17) (.t 18), none⟩,
      ⟨some 20, .load 1 false (.t 19) [], none⟩,
      ⟨some 21, .bin .add (.t 16) (.t 20), none⟩,
      ⟨some 5, .mov (.t 21), none⟩] (some [1, 2, 5, 6])))
   (.ops false [
     ⟨some 11, .mov (.t 6), none⟩,
     ⟨some 12, .bin .add (.t 11) (.k (.int 1)), none⟩,
     ⟨some 6, .mov (.t 12), none⟩] (some [1, 2, 5, 6])))))))
 (.seq
 (.ops false [
   ⟨some 22, .mov (.t 5), none⟩,
   ⟨some 4, .mov (.t 22), none⟩] (some [4]))
 .ret))))

theorem m127 : fmatch Try.prog Try.f127 2 [.tmp 4] v127 = true := by kernel_rfl

/-- steening/knots.number -/
def v128 : VC :=
 (.seq
 (.ops false [
   ⟨some 4, .mov (.k (.int 0)), none⟩] (some [0, 1]))
 (.seq
 (.ops false [
   ⟨some 5, .mov (.k (.int 0)), none⟩] (some [0, 1, 5]))
 (.seq
 (.seq
 (.ops false [
   ⟨some 8, .mov (.t 1), none⟩,
   ⟨some 9, .len (.t 8), none⟩,
   ⟨some 10, .mov (.k (.int 0)), none⟩] (some [0, 5, 8, 9, 10]))
 (.block 0
  (.loop
   (.seq
   (.ops false [
     ⟨some 11, .bin .lss (.t 10) (.t 9), none⟩] (some [0, 5, 8, 9, 10, 11]))
   (.seq
   (.cond (.t 11)
    .skip
    (.exit 0))
   (.seq
   (.block 1
    (.seq
    (.ops false [
      ⟨some 12, .idx 1 (.t 8) (.t 10), none⟩,
      ⟨some 13, .load 1 false (.t 12) [], none⟩,
      ⟨some 7, .mov (.t 13), none⟩] (some [0, 5, 7, 8, 9, 10]))
    (.ops false [
      ⟨some 14, .mov (.t 5), none⟩,
      ⟨some 15, .mov (.t 0), none⟩,
      ⟨some 16, .bin .mul (.t 14) (.t 15), none⟩,
      ⟨some 17, .mov (.t 7), none⟩,
      ⟨some 18, .bin .add (.t 16) (.t 17), none⟩,
      ⟨some 5, .mov (.t 18), none⟩] (some [0, 5, 8, 9, 10]))))
   (.ops false [
     ⟨some 19, .bin .add (.t 10) (.k (.int 1)), none⟩,
     ⟨some 10, .mov (.t 19), none⟩] (some [0, 5, 8, 9, 10]))))))))
 (.seq
 (.ops false [
   ⟨some 20, .mov (.t 5), none⟩,
   ⟨some 4, .mov (.t 20), none⟩] (some [4]))
 .ret))))

theorem m128 : fmatch Try.prog Try.f128 2 [.tmp 4] v128 = true := by kernel_rfl

/-- slices.IndexFunc[[]steening/api.Span,steening/api.Span] -/
def v129 : VC :=
 (.seq
 (.ops false [
   ⟨some 4, .mov (.k (.int 0)), none⟩] (some [0, 1]))
 (.seq
 (.seq
 (.ops false [
   ⟨some 6, .mov (.t 0), none⟩,
   ⟨some 7, .len (.t 6), none⟩,
   ⟨some 8, .mov (.k (.int 0)), none⟩] (some [0, 1, 7, 8]))
 (.block 0
  (.loop
   (.seq
   (.ops false [
     ⟨some 9, .bin .lss (.t 8) (.t 7), none⟩] (some [0, 1, 7, 8, 9]))
   (.seq
   (.cond (.t 9)
    .skip
    (.exit 0))
   (.seq
   (.block 1
    (.seq
    (.ops false [
      ⟨some 10, .mov (.t 8), none⟩,
      ⟨some 5, .mov (.t 10), none⟩] (some [0, 1, 5, 7, 8]))
    (.seq
    (.ops false [
      ⟨some 11, .mov (.t 1), none⟩,
      ⟨some 12, .mov (.t 0), none⟩,
      ⟨some 13, .mov (.t 5), none⟩,
      ⟨some 14, .idx 2 (.t 12) (.t 13), none⟩,
      ⟨some 15, .load 2 true (.t 14) [], none⟩,
      ⟨some 16, .callv (.t 11) [.t 15], none⟩] (some [0, 1, 5, 7, 8, 16]))
    (.cond (.t 16)
     (.seq
     (.ops false [
       ⟨some 17, .mov (.t 5), none⟩,
       ⟨some 4, .mov (.t 17), none⟩] (some [4]))
     .ret)
     .skip))))
   (.ops false [
     ⟨some 18, .bin .add (.t 8) (.k (.int 1)), none⟩,
     ⟨some 8, .mov (.t 18), none⟩] (some [0, 1, 7, 8]))))))))
 (.seq
 (.ops false [
   ⟨some 4, .mov (.k (.int (-1))), none⟩] (some [4]))
 .ret)))

theorem m129 : fmatch Try.prog Try.f129 2 [.tmp 4] v129 = true := by kernel_rfl

end Go.Proofs.Ytemnojaoickjfaa


/- Contracts of small functions (out of knots). -/
set_option linter.unusedSimpArgs false
set_option linter.unusedVariables false
set_option linter.unnecessarySimpa false
namespace Go.Proofs.Ytemnojaoickjfaa
open Go Go.V

theorem hmix : Try.prog.follows .mixedOrders = true := by kernel_rfl

abbrev IS (l : List Int) : AV := .sl 1 (l.map .int) .sh

theorem c62 (a b : List Int) (ha : a.length < 4294967296) : Ctr Try.prog 62 [IS a, IS b] (.bool (decide (a = b))) := by
  refine ctr_of_wp hmix Try.func62 m62 rfl ?_
  unfold v62 IS
  simp -failIfUnchanged (disch := first | omega | (simp <;> omega) | fail) only [go_sem, simprocAttr]
  refine wcond_dec (fun h => ?_) (fun h => ?_)
  · simp -failIfUnchanged (disch := first | omega | (simp <;> omega) | fail) only [go_sem, simprocAttr]
    have : a ≠ b := fun e => by subst e; simp at h
    simp [this]
  · simp -failIfUnchanged (disch := first | omega | (simp <;> omega) | fail) only [go_sem, simprocAttr]
    refine wp_loop' Nat (fun i => ⟨[(0, IS a), (1, IS b), (5, .int i)], [], [], none⟩) (fun i => i ≤ a.length ∧ a.take i = b.take i) (fun i => a.length - i) 0 (by simp) (by unfold IS; simp -failIfUnchanged (disch := first | omega | (simp <;> omega) | fail) only [go_sem, simprocAttr]; try rfl) ?_
    rintro i ⟨hi, hpre⟩
    unfold IS
    simp -failIfUnchanged (disch := first | omega | (simp <;> omega) | fail) only [go_sem, simprocAttr]
    have hl : a.length = b.length := by omega
    refine wcond_dec (fun h => ?_) (fun h => ?_)
    · simp -failIfUnchanged (disch := first | omega | (simp <;> omega) | fail) only [go_sem, simprocAttr]
      have e1 : a[i]? = some a[i] := List.getElem?_eq_getElem (by omega)
      have e2 : b[i]? = some b[i] := List.getElem?_eq_getElem (by omega)
      rw [e1, e2]
      simp -failIfUnchanged (disch := first | omega | (simp <;> omega) | fail) only [go_sem, simprocAttr]
      refine wcond_dec (fun h => ?_) (fun h => ?_)
      · simp -failIfUnchanged (disch := first | omega | (simp <;> omega) | fail) only [go_sem, simprocAttr]
        have : a ≠ b := fun e => by subst e; simp at h
        simp [this]
      · simp -failIfUnchanged (disch := first | omega | (simp <;> omega) | fail) only [go_sem, simprocAttr]
        refine ⟨i + 1, ⟨by omega, ?_⟩, by dsimp only; omega, ?_⟩
        · rw [List.take_add_one, List.take_add_one, hpre, e1, e2]
          simp only [Decidable.not_not] at h
          rw [h]
        · simp -failIfUnchanged (disch := first | omega | (simp <;> omega) | fail) only [go_sem, simprocAttr]
          simp
    · simp -failIfUnchanged (disch := first | omega | (simp <;> omega) | fail) only [go_sem, simprocAttr]
      have e : i = a.length := by omega
      have : a = b := by
        rw [e, List.take_length, hl, List.take_length] at hpre
        exact hpre
      simp [this]

structure Sp where
  lo : Int
  hi : Int
  deriving Inhabited, DecidableEq

structure Bk where
  base : Int
  places : Int
  cords : List (List Sp)
  top : List Sp
  deriving Inhabited, DecidableEq

abbrev SP (s : Sp) : AV := .agg [.int s.lo, .int s.hi]

abbrev SS (l : List Sp) : AV := .sl 2 (l.map SP) .sh

abbrev KB (b : Bk) : AV := .agg [.int b.base, .int b.places, .sl 1 (b.cords.map SS) .sh, SS b.top]

def within (n lo hi : Int) : Bool := decide (lo ≤ n ∧ n ≤ hi)

theorem c106 (n lo hi : Int) : Ctr Try.prog 106 [.int n, .int lo, .int hi] (.bool (within n lo hi)) := by
  refine ctr_of_wp hmix Try.func106 m106 rfl ?_
  unfold v106
  simp -failIfUnchanged (disch := first | omega | (simp <;> omega) | fail) only [go_sem, simprocAttr]
  refine WGd_bool (fun h => ?_) (fun h => ?_)
  · simp -failIfUnchanged (disch := first | omega | (simp <;> omega) | fail) only [go_sem, simprocAttr, h]
    simp only [decide_eq_true_eq] at h
    simp [within, h]
  · simp -failIfUnchanged (disch := first | omega | (simp <;> omega) | fail) only [go_sem, simprocAttr, h]
    simp only [Bool.not_true, decide_eq_false_iff_not] at h
    simp [within, h]

theorem c116 (b : Bk) (n : Int) : Ctr Try.prog 116 [KB b, .int n] (.bool (within n 0 b.cords.length)) := by
  refine ctr_of_wp hmix Try.func116 m116 rfl ?_
  unfold v116
  simp -failIfUnchanged (disch := first | omega | (simp <;> omega) | fail) only [go_sem, simprocAttr]
  refine wcall (c106 _ _ _) ?_
  simp -failIfUnchanged (disch := first | omega | (simp <;> omega) | fail) only [go_sem, simprocAttr]

theorem out1_eq {P : Program} {fr : List (Nat × AV)} {hp : List (Nat × BX)} {tk : List (Nat × Nat)} {pd : Option Ex} {t : Nat} {ty : TypeId} : out1 P ⟨fr, hp, tk, pd⟩ (.cell t ty) = (match get fr t with
    | .ptr b 0 => match getB hp b with
      | some ⟨cells, true⟩ => match aggOf P ty with
        | some true => if szOf P ty = some cells.length then .agg cells else .und
        | some false => match cells with
          | [x] => x
          | _ => .und
        | none => .und
      | _ => .und
    | _ => .und) := rfl

theorem ag36 : aggOf Try.prog 36 = some true := by kernel_rfl
theorem sz36 : szOf Try.prog 36 = some 2 := by kernel_rfl
theorem ag24 : aggOf Try.prog 24 = some true := by kernel_rfl
theorem sz24 : szOf Try.prog 24 = some 6 := by kernel_rfl
theorem ag102 : aggOf Try.prog 102 = some true := by kernel_rfl
theorem sz102 : szOf Try.prog 102 = some 4 := by kernel_rfl
attribute [go_sem] ag36 sz36 ag24 sz24 ag102 sz102 out1_eq

end Go.Proofs.Ytemnojaoickjfaa

