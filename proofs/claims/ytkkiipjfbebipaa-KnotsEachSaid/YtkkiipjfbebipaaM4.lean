/- Merged by program: Code, T1, T2, T3, T4, T5, T6, T7, T8, T9, T10. -/
import Derived.Test.YtkkiipjfbebipaaM3
import Derived.Test.YtkkiipjfbebipaaProg
import Derived.ProofKit
/- The compact code of the functions, and that it is theirs. -/
namespace Go.Proofs.Ytkkiipjfbebipaa
open Go Go.V
set_option maxRecDepth 100000

/-- steening/steeningref11.Right -/
def v60 : VC :=
 (.seq
 (.ops false [
   ⟨some 2, .box 2 4 (.t 0), none⟩,
   ⟨some 4, .mov (.k (.bool false)), none⟩,
   ⟨some 5, .mov (.k (.int 0)), none⟩] (some [1, 2]))
 (.seq
 (.seq
 (.ops false [
   ⟨some 7, .load 4 true (.t 2) [], none⟩,
   ⟨some 8, .call 50 [.t 7], none⟩,
   ⟨some 6, .mov (.t 8), none⟩] (some [1, 2, 6]))
 (.seq
 (.ops false [
   ⟨some 9, .mov (.t 6), none⟩,
   ⟨some 10, .bin .neq (.t 9) (.k (.int 0)), none⟩] (some [1, 2, 6, 10]))
 (.cond (.t 10)
  (.seq
  (.ops false [
    ⟨some 11, .mov (.t 6), none⟩,
    ⟨some 4, .mov (.k (.bool false)), none⟩,
    ⟨some 5, .mov (.t 11), none⟩] (some [4, 5]))
  .ret)
  .skip)))
 (.seq
 (.ops false [
   ⟨some 12, .load 4 true (.t 2) [], none⟩,
   ⟨some 13, .mov (.t 1), none⟩,
   ⟨some 14, .call 61 [.t 12, .t 13], none⟩,
   ⟨some 4, .mov (.t 14), none⟩,
   ⟨some 5, .mov (.k (.int 0)), none⟩] (some [4, 5]))
 .ret)))

theorem m60 : fmatch Try.prog Try.f60 2 [.tmp 4, .tmp 5] v60 = true := by kernel_rfl

/-- steening/steeningref11.IsRight -/
def v61 : VC :=
 (.seq
 (.ops false [
   ⟨some 2, .box 2 4 (.t 0), none⟩,
   ⟨some 4, .mov (.k (.bool false)), none⟩] (some [1, 2]))
 (.seq
 (.seq
 (.ops false [
   ⟨some 6, .load 4 true (.t 2) [], none⟩,
   ⟨some 7, .mov (.t 1), none⟩,
   ⟨some 8, .call 98 [.t 6, .t 7], none⟩,
   ⟨some 9, .not (.t 8), none⟩] (some [1, 2, 9]))
 (.cond (.t 9)
  (.seq
  (.ops false [
    ⟨some 4, .mov (.k (.bool false)), none⟩] (some [4]))
  .ret)
  .skip))
 (.seq
 (.seq
 (.ops false [
   ⟨some 5, .mov (.k (.int 0)), none⟩] (some [1, 2, 5]))
 (.block 0
  (.loop
   (.seq
   (.seq
   (.ops false [
     ⟨some 10, .mov (.t 5), none⟩,
     ⟨some 11, .mov (.t 1), none⟩,
     ⟨some 12, .len (.t 11), none⟩,
     ⟨some 13, .bin .lss (.t 10) (.t 12), none⟩] (some [1, 2, 5, 13]))
   (.cond (.t 13)
    .skip
    (.exit 0)))
   (.seq
   (.block 1
    (.seq
    (.ops true [
      ⟨some 16, .load 4 true (.t 2) [], none⟩,
      ⟨some 17, .mov (.t 5), none⟩,
      ⟨some 18, .call 32 [.t 16, .t 17], none⟩,
      ⟨some 19, .mov (.t 1), none⟩,
      ⟨some 20, .mov (.t 5), none⟩,
      ⟨some 21, .idx 1 (.t 19) (.t 20), none⟩,
      ⟨some 22, .load 1 false (.t 21) [], none⟩,
      ⟨some 23, .call 99 [.t 18, .t 22], none⟩,
      ⟨some 24, .not (.t 23), none⟩] (some [1, 2, 5, 24]))
    (.cond (.t 24)
     (.seq
     (.ops false [
       ⟨some 4, .mov (.k (.bool false)), none⟩] (some [4]))
     .ret)
     .skip)))
   (.ops false [
     ⟨some 14, .mov (.t 5), none⟩,
     ⟨some 15, .bin .add (.t 14) (.k (.int 1)), none⟩,
     ⟨some 5, .mov (.t 15), none⟩] (some [1, 2, 5])))))))
 (.seq
 (.ops false [
   ⟨some 4, .mov (.k (.bool true)), none⟩] (some [4]))
 .ret))))

theorem m61 : fmatch Try.prog Try.f61 2 [.tmp 4] v61 = true := by kernel_rfl

/-- steening/steeningref11.CarryOf -/
def v62 : VC :=
 (.seq
 (.ops false [
   ⟨some 3, .box 3 4 (.t 0), none⟩,
   ⟨some 6, .mov (.k (.int 0)), none⟩] (some [1, 2, 3]))
 (.seq
 (.ops false [
   ⟨some 7, .mov (.k (.int 0)), none⟩] (some [1, 2, 3, 7]))
 (.seq
 (.seq
 (.ops false [
   ⟨some 10, .fld 1 (.t 3), none⟩,
   ⟨some 11, .load 1 false (.t 10) [], none⟩,
   ⟨some 12, .bin .sub (.t 11) (.k (.int 1)), none⟩,
   ⟨some 8, .mov (.t 12), none⟩] (some [1, 2, 3, 7, 8]))
 (.block 0
  (.loop
   (.seq
   (.seq
   (.ops false [
     ⟨some 13, .mov (.t 8), none⟩,
     ⟨some 14, .mov (.t 2), none⟩,
     ⟨some 15, .bin .geq (.t 13) (.t 14), none⟩] (some [1, 2, 3, 7, 8, 15]))
   (.cond (.t 15)
    .skip
    (.exit 0)))
   (.seq
   (.block 1
    (.seq
    (.seq
    (.ops false [
      ⟨some 9, .mov (.k (.int 0)), none⟩] (some [1, 2, 3, 7, 8, 9]))
    (.block 2
     (.loop
      (.seq
      (.seq
      (.ops false [
        ⟨some 18, .mov (.t 9), none⟩,
        ⟨some 19, .fld 2 (.t 3), none⟩,
        ⟨some 20, .load 1 false (.t 19) [], none⟩,
        ⟨some 21, .len (.t 20), none⟩,
        ⟨some 22, .bin .lss (.t 18) (.t 21), none⟩] (some [1, 2, 3, 7, 8, 9, 22]))
      (.cond (.t 22)
       .skip
       (.exit 2)))
      (.seq
      (.block 3
       (.ops true [
         ⟨some 25, .mov (.t 7), none⟩,
         ⟨some 26, .load 4 true (.t 3) [], none⟩,
         ⟨some 27, .mov (.t 1), none⟩,
         ⟨some 28, .mov (.t 9), none⟩,
         ⟨some 29, .idx 1 (.t 27) (.t 28), none⟩,
         ⟨some 30, .load 1 false (.t 29) [], none⟩,
         ⟨some 31, .call 69 [.t 26, .t 30], none⟩,
         ⟨some 32, .mov (.t 8), none⟩,
         ⟨some 33, .idx 1 (.t 31) (.t 32), none⟩,
         ⟨some 34, .load 1 false (.t 33) [], none⟩,
         ⟨some 35, .bin .add (.t 25) (.t 34), none⟩,
         ⟨some 7, .mov (.t 35), none⟩] (some [1, 2, 3, 7, 8, 9])))
      (.ops false [
        ⟨some 23, .mov (.t 9), none⟩,
        ⟨some 24, .bin .add (.t 23) (.k (.int 1)), none⟩,
        ⟨some 9, .mov (.t 24), none⟩] (some [1, 2, 3, 7, 8, 9])))))))
    (.ops false [
      ⟨some 36, .mov (.t 7), none⟩,
      ⟨some 37, .fld 0 (.t 3), none⟩,
      ⟨some 38, .load 1 false (.t 37) [], none⟩,
      ⟨some 39, .bin .quo (.t 36) (.t 38), none⟩,
      ⟨some 7, .mov (.t 39), none⟩] (some [1, 2, 3, 7, 8]))))
   (.ops false [
     ⟨some 16, .mov (.t 8), none⟩,
     ⟨some 17, .bin .sub (.t 16) (.k (.int 1)), none⟩,
     ⟨some 8, .mov (.t 17), none⟩] (some [1, 2, 3, 7, 8])))))))
 (.seq
 (.ops false [
   ⟨some 40, .mov (.t 7), none⟩,
   ⟨some 6, .mov (.t 40), none⟩] (some [6]))
 .ret))))

theorem m62 : fmatch Try.prog Try.f62 3 [.tmp 6] v62 = true := by kernel_rfl

/-- steening/steeninglaw11.Example -/
def v63 : VC :=
 (.seq
 (.ops false [
   ⟨some 0, .alloc 0 [.int 0, .int 0, .sl 1 [] .full, .sl 2 [] .full], none⟩,
   ⟨some 1, .alloc 1 [.int 0, .int 0, .sl 1 [] .full, .sl 2 [] .full], none⟩] (some [0, 1]))
 (.seq
 (.ops false [
   ⟨some 2, .build [.int 0, .int 0] [(0, 1, .k (.int 1)), (1, 1, .k (.int 1))], none⟩,
   ⟨some 3, .build [.int 0, .int 0] [(0, 1, .k (.int 2)), (1, 1, .k (.int 3))], none⟩,
   ⟨some 4, .bslice 2 [.t 2, .t 3], none⟩,
   ⟨some 5, .build [.int 0, .int 0] [(1, 1, .k (.int 1))], none⟩,
   ⟨some 6, .build [.int 0, .int 0] [(0, 1, .k (.int 5)), (1, 1, .k (.int 5))], none⟩,
   ⟨some 7, .bslice 2 [.t 5, .t 6], none⟩,
   ⟨some 8, .bslice 1 [.t 4, .t 7], none⟩,
   ⟨some 9, .build [.int 0, .int 0] [(0, 1, .k (.int 2)), (1, 1, .k (.int 2))], none⟩,
   ⟨some 10, .build [.int 0, .int 0] [(0, 1, .k (.int 7)), (1, 1, .k (.int 8))], none⟩,
   ⟨some 11, .bslice 2 [.t 9, .t 10], none⟩,
   ⟨some 12, .build [.int 0, .int 0, .sl 1 [] .sh, .sl 2 [] .sh] [(0, 1, .k (.int 10)), (1, 1, .k (.int 2)), (2, 1, .t 8), (3, 1, .t 11)], none⟩,
   ⟨none, .store 4 (.t 0) (.t 12) (some 0), none⟩] (some [0, 1]))
 (.seq
 (.ops false [
   ⟨some 13, .build [.int 0, .int 0] [(0, 1, .k (.int 3)), (1, 1, .k (.int 3))], none⟩,
   ⟨some 14, .bslice 2 [.t 13], none⟩,
   ⟨some 15, .build [.int 0, .int 0] [(0, 1, .k (.int 4)), (1, 1, .k (.int 4))], none⟩,
   ⟨some 16, .bslice 2 [.t 15], none⟩,
   ⟨some 17, .bslice 1 [.t 14, .t 16], none⟩,
   ⟨some 18, .build [.int 0, .int 0] [(0, 1, .k (.int 9)), (1, 1, .k (.int 9))], none⟩,
   ⟨some 19, .bslice 2 [.t 18], none⟩,
   ⟨some 20, .build [.int 0, .int 0, .sl 1 [] .sh, .sl 2 [] .sh] [(0, 1, .k (.int 10)), (1, 1, .k (.int 1)), (2, 1, .t 17), (3, 1, .t 19)], none⟩,
   ⟨none, .store 4 (.t 1) (.t 20) (some 1), none⟩] (some [0, 1]))
 (.seq
 (.ops true [
   ⟨some 21, .load 4 true (.t 0) [1], none⟩,
   ⟨some 22, .load 4 true (.t 1) [0], none⟩,
   ⟨none, .store 4 (.t 0) (.t 21) (some 0), none⟩,
   ⟨none, .store 4 (.t 1) (.t 22) (some 1), none⟩] (some [0, 1]))
 .ret))))

theorem m63 : fmatch Try.prog Try.f63 0 [.cell 0 25, .cell 1 25] v63 = true := by kernel_rfl

/-- steening/knots.weave -/
def v64 : VC :=
 (.seq
 (.ops false [
   ⟨some 1, .box 1 4 (.t 0), none⟩,
   ⟨some 2, .alloc 2 [.int 0, .int 0, .sl 1 [] .full, .sl 2 [] .full, .und, .und], none⟩] (some [1, 2]))
 (.seq
 (.ops false [
   ⟨some 3, .load 4 true (.t 1) [], none⟩,
   ⟨some 4, .build [.int 0, .int 0, .sl 1 [] .sh, .sl 2 [] .sh, .und, .und] [(0, 4, .t 3), (4, 1, .k (.clo 100 [] [])), (5, 1, .k (.clo 101 [] []))], none⟩,
   ⟨none, .store 6 (.t 2) (.t 4) (some 2), none⟩] (some [2]))
 .ret))

theorem m64 : fmatch Try.prog Try.f64 1 [.cell 2 74] v64 = true := by kernel_rfl

/-- (steening/knots.loom).many -/
def v65 : VC :=
 (.seq
 (.ops false [
   ⟨some 1, .box 1 6 (.t 0), none⟩,
   ⟨some 2, .mov (.k (.int 0)), none⟩] (some [1]))
 (.seq
 (.ops false [
   ⟨some 3, .load 6 true (.t 1) [], none⟩,
   ⟨some 4, .call 71 [.t 3], none⟩,
   ⟨some 5, .fieldV 1 1 false (.t 4), none⟩,
   ⟨some 2, .mov (.t 5), none⟩] (some [2]))
 .ret))

theorem m65 : fmatch Try.prog Try.f65 1 [.tmp 2] v65 = true := by kernel_rfl

/-- steening/knots.all -/
def v66 : VC :=
 (.seq
 (.ops false [
   ⟨some 1, .box 1 4 (.t 0), none⟩,
   ⟨some 2, .nils 2 1, none⟩] (some [1]))
 (.seq
 (.ops true [
   ⟨some 3, .fld 2 (.t 1), none⟩,
   ⟨some 4, .load 1 false (.t 3) [], none⟩,
   ⟨some 5, .fld 2 (.t 1), none⟩,
   ⟨some 6, .load 1 false (.t 5) [], none⟩,
   ⟨some 7, .len (.t 6), none⟩,
   ⟨some 8, .fld 2 (.t 1), none⟩,
   ⟨some 9, .load 1 false (.t 8) [], none⟩,
   ⟨some 10, .len (.t 9), none⟩,
   ⟨some 11, .sliceF 1 (.t 4) none (some (.t 7)) (some (.t 10)), none⟩,
   ⟨some 12, .fld 3 (.t 1), none⟩,
   ⟨some 13, .load 1 false (.t 12) [], none⟩,
   ⟨some 14, .bslice 1 [.t 13], none⟩,
   ⟨some 15, .app 15 1 24 (.t 11) (.t 14), none⟩,
   ⟨some 2, .mov (.t 15), none⟩] (some [2]))
 .ret))

theorem m66 : fmatch Try.prog Try.f66 1 [.tmp 2] v66 = true := by kernel_rfl

/-- (steening/knots.loom).digits -/
def v67 : VC :=
 (.seq
 (.ops false [
   ⟨some 3, .box 3 6 (.t 0), none⟩,
   ⟨some 4, .box 4 1 (.t 1), none⟩,
   ⟨some 5, .box 5 1 (.t 2), none⟩,
   ⟨some 6, .mov (.k .und), none⟩] (some [3, 4, 5]))
 (.seq
 (.ops false [
   ⟨some 7, .mkf 102 [.t 3, .t 4, .t 5], none⟩,
   ⟨some 6, .mov (.t 7), none⟩] (some [6]))
 .ret))

theorem m67 : fmatch Try.prog Try.f67 3 [.tmp 6] v67 = true := by kernel_rfl

/-- steening/steeningref11.sums -/
def v68 : VC :=
 (.seq
 (.ops false [
   ⟨some 3, .box 3 4 (.t 0), none⟩,
   ⟨some 6, .nils 6 1, none⟩] (some [1, 2, 3]))
 (.seq
 (.seq
 (.ops false [
   ⟨some 11, .mov (.t 1), none⟩,
   ⟨some 12, .len (.t 11), none⟩,
   ⟨some 13, .fld 2 (.t 3), none⟩,
   ⟨some 14, .load 1 false (.t 13) [], none⟩,
   ⟨some 15, .len (.t 14), none⟩,
   ⟨some 16, .bin .eql (.t 12) (.t 15), none⟩] (some [1, 2, 3, 16]))
 (.cond (.t 16)
  (.seq
  (.ops false [
    ⟨some 17, .mov (.t 1), none⟩,
    ⟨some 18, .call 103 [.t 17], none⟩,
    ⟨some 7, .mov (.t 18), none⟩] (some [1, 2, 3, 7]))
  (.seq
  (.seq
  (.ops true [
    ⟨some 19, .mov (.t 7), none⟩,
    ⟨some 20, .load 4 true (.t 3) [], none⟩,
    ⟨some 21, .call 41 [.t 20], none⟩,
    ⟨some 22, .bin .geq (.t 19) (.t 21), none⟩,
    ⟨some 23, .mov (.t 22), none⟩,
    ⟨some 24, .mov (.t 2), some (23, false)⟩,
    ⟨some 25, .not (.t 24), some (23, false)⟩,
    ⟨some 26, .mov (.t 25), some (23, false)⟩,
    ⟨some 27, .fld 3 (.t 3), some (26, true)⟩,
    ⟨some 28, .load 1 false (.t 27) [], some (26, true)⟩,
    ⟨some 29, .load 4 true (.t 3) [], some (26, true)⟩,
    ⟨some 30, .mov (.t 7), some (26, true)⟩,
    ⟨some 31, .call 69 [.t 29, .t 30], some (26, true)⟩,
    ⟨some 32, .call 99 [.t 28, .t 31], some (26, true)⟩,
    ⟨some 33, .not (.t 32), some (26, true)⟩,
    ⟨some 34, .pick (.t 26) (.t 33) (.k (.bool false)), some (23, false)⟩,
    ⟨some 35, .pick (.t 23) (.k (.bool true)) (.t 34), none⟩] (some [1, 7, 35]))
  (.cond (.t 35)
   (.seq
   (.ops false [
     ⟨some 6, .nils 501 1, none⟩] (some [6]))
   .ret)
   .skip))
  (.seq
  (.ops false [
    ⟨some 36, .bslice 1 [], none⟩,
    ⟨some 37, .mov (.t 1), none⟩,
    ⟨some 38, .app 38 1 8 (.t 36) (.t 37), none⟩,
    ⟨some 39, .mov (.t 7), none⟩,
    ⟨some 40, .bslice 1 [.t 39], none⟩,
    ⟨some 41, .app 41 1 8 (.t 38) (.t 40), none⟩,
    ⟨some 42, .bslice 1 [.t 41], none⟩,
    ⟨some 6, .mov (.t 42), none⟩] (some [6]))
  .ret)))
  .skip))
 (.seq
 (.ops false [
   ⟨some 8, .nils 8 1, none⟩] (some [1, 2, 3, 8]))
 (.seq
 (.ops false [
   ⟨some 43, .load 4 true (.t 3) [], none⟩,
   ⟨some 44, .mov (.t 1), none⟩,
   ⟨some 45, .len (.t 44), none⟩,
   ⟨some 46, .mov (.t 2), none⟩,
   ⟨some 47, .call 104 [.t 43, .t 45, .t 46], none⟩,
   ⟨some 9, .mov (.t 47), none⟩] (some [1, 2, 3, 8, 9]))
 (.seq
 (.seq
 (.ops false [
   ⟨some 10, .mov (.k (.int 0)), none⟩] (some [1, 2, 3, 8, 9, 10]))
 (.block 0
  (.loop
   (.seq
   (.seq
   (.ops false [
     ⟨some 48, .mov (.t 10), none⟩,
     ⟨some 49, .mov (.t 9), none⟩,
     ⟨some 50, .len (.t 49), none⟩,
     ⟨some 51, .bin .lss (.t 48) (.t 50), none⟩] (some [1, 2, 3, 8, 9, 10, 51]))
   (.cond (.t 51)
    .skip
    (.exit 0)))
   (.seq
   (.block 1
    (.ops true [
      ⟨some 54, .mov (.t 8), none⟩,
      ⟨some 55, .load 4 true (.t 3) [], none⟩,
      ⟨some 56, .bslice 1 [], none⟩,
      ⟨some 57, .mov (.t 1), none⟩,
      ⟨some 58, .app 58 1 8 (.t 56) (.t 57), none⟩,
      ⟨some 59, .mov (.t 9), none⟩,
      ⟨some 60, .mov (.t 10), none⟩,
      ⟨some 61, .idx 1 (.t 59) (.t 60), none⟩,
      ⟨some 62, .load 1 false (.t 61) [], none⟩,
      ⟨some 63, .bslice 1 [.t 62], none⟩,
      ⟨some 64, .app 64 1 8 (.t 58) (.t 63), none⟩,
      ⟨some 65, .mov (.t 2), none⟩,
      ⟨some 66, .call 68 [.t 55, .t 64, .t 65], none⟩,
      ⟨some 67, .app 67 1 24 (.t 54) (.t 66), none⟩,
      ⟨some 8, .mov (.t 67), none⟩] (some [1, 2, 3, 8, 9, 10])))
   (.ops false [
     ⟨some 52, .mov (.t 10), none⟩,
     ⟨some 53, .bin .add (.t 52) (.k (.int 1)), none⟩,
     ⟨some 10, .mov (.t 53), none⟩] (some [1, 2, 3, 8, 9, 10])))))))
 (.seq
 (.ops false [
   ⟨some 68, .mov (.t 8), none⟩,
   ⟨some 6, .mov (.t 68), none⟩] (some [6]))
 .ret))))))

theorem m68 : fmatch Try.prog Try.f68 3 [.tmp 6] v68 = true := by kernel_rfl

/-- steening/steeningref11.TieOf -/
def v69 : VC :=
 (.seq
 (.ops false [
   ⟨some 2, .box 2 4 (.t 0), none⟩,
   ⟨some 4, .nils 4 1, none⟩] (some [1, 2]))
 (.seq
 (.ops false [
   ⟨some 7, .fld 1 (.t 2), none⟩,
   ⟨some 8, .load 1 false (.t 7) [], none⟩,
   ⟨some 9, .makes 9 1 8 false [.int 0] (.t 8), none⟩,
   ⟨some 5, .mov (.t 9), none⟩] (some [1, 2, 5]))
 (.seq
 (.seq
 (.ops false [
   ⟨some 10, .fld 1 (.t 2), none⟩,
   ⟨some 11, .load 1 false (.t 10) [], none⟩,
   ⟨some 12, .bin .sub (.t 11) (.k (.int 1)), none⟩,
   ⟨some 6, .mov (.t 12), none⟩] (some [1, 2, 5, 6]))
 (.block 0
  (.loop
   (.seq
   (.seq
   (.ops false [
     ⟨some 13, .mov (.t 6), none⟩,
     ⟨some 14, .bin .geq (.t 13) (.k (.int 0)), none⟩] (some [1, 2, 5, 6, 14]))
   (.cond (.t 14)
    .skip
    (.exit 0)))
   (.seq
   (.block 1
    (.seq
    (.ops false [
      ⟨some 17, .mov (.t 5), none⟩,
      ⟨some 18, .mov (.t 6), none⟩,
      ⟨some 19, .mov (.t 1), none⟩,
      ⟨some 20, .fld 0 (.t 2), none⟩,
      ⟨some 21, .load 1 false (.t 20) [], none⟩,
      ⟨some 22, .bin .rem (.t 19) (.t 21), none⟩,
      ⟨some 23, .idx 1 (.t 17) (.t 18), none⟩,
      ⟨none, .store 1 (.t 23) (.t 22) (some 9), none⟩] (some [1, 2, 5, 6]))
    (.ops false [
      ⟨some 24, .mov (.t 1), none⟩,
      ⟨some 25, .fld 0 (.t 2), none⟩,
      ⟨some 26, .load 1 false (.t 25) [], none⟩,
      ⟨some 27, .bin .quo (.t 24) (.t 26), none⟩,
      ⟨some 1, .mov (.t 27), none⟩] (some [1, 2, 5, 6]))))
   (.ops false [
     ⟨some 15, .mov (.t 6), none⟩,
     ⟨some 16, .bin .sub (.t 15) (.k (.int 1)), none⟩,
     ⟨some 6, .mov (.t 16), none⟩] (some [1, 2, 5, 6])))))))
 (.seq
 (.ops false [
   ⟨some 28, .mov (.t 5), none⟩,
   ⟨some 4, .mov (.t 28), none⟩] (some [4]))
 .ret))))

theorem m69 : fmatch Try.prog Try.f69 2 [.tmp 4] v69 = true := by kernel_rfl

/-- steening/steeninglaw11.sameSpans -/
def v70 : VC :=
 (.seq
 (.ops false [
   ⟨some 4, .mov (.k (.bool false)), none⟩] (some [0, 1]))
 (.seq
 (.seq
 (.ops false [
   ⟨some 6, .mov (.t 0), none⟩,
   ⟨some 7, .len (.t 6), none⟩,
   ⟨some 8, .mov (.t 1), none⟩,
   ⟨some 9, .len (.t 8), none⟩,
   ⟨some 10, .bin .neq (.t 7) (.t 9), none⟩] (some [0, 1, 10]))
 (.cond (.t 10)
  (.seq
  (.ops false [
    ⟨some 4, .mov (.k (.bool false)), none⟩] (some [4]))
  .ret)
  .skip))
 (.seq
 (.seq
 (.ops false [
   ⟨some 5, .mov (.k (.int 0)), none⟩] (some [0, 1, 5]))
 (.block 0
  (.loop
   (.seq
   (.seq
   (.ops false [
     ⟨some 11, .mov (.t 5), none⟩,
     ⟨some 12, .mov (.t 0), none⟩,
     ⟨some 13, .len (.t 12), none⟩,
     ⟨some 14, .bin .lss (.t 11) (.t 13), none⟩] (some [0, 1, 5, 14]))
   (.cond (.t 14)
    .skip
    (.exit 0)))
   (.seq
   (.block 1
    (.seq
    (.ops true [
      ⟨some 17, .mov (.t 0), none⟩,
      ⟨some 18, .mov (.t 5), none⟩,
      ⟨some 19, .idx 2 (.t 17) (.t 18), none⟩,
      ⟨some 20, .load 2 true (.t 19) [], none⟩,
      ⟨some 21, .mov (.t 1), none⟩,
      ⟨some 22, .mov (.t 5), none⟩,
      ⟨some 23, .idx 2 (.t 21) (.t 22), none⟩,
      ⟨some 24, .load 2 true (.t 23) [], none⟩,
      ⟨some 25, .bin (.sne 2) (.t 20) (.t 24), none⟩] (some [0, 1, 5, 25]))
    (.cond (.t 25)
     (.seq
     (.ops false [
       ⟨some 4, .mov (.k (.bool false)), none⟩] (some [4]))
     .ret)
     .skip)))
   (.ops false [
     ⟨some 15, .mov (.t 5), none⟩,
     ⟨some 16, .bin .add (.t 15) (.k (.int 1)), none⟩,
     ⟨some 5, .mov (.t 16), none⟩] (some [0, 1, 5])))))))
 (.seq
 (.ops false [
   ⟨some 4, .mov (.k (.bool true)), none⟩] (some [4]))
 .ret))))

theorem m70 : fmatch Try.prog Try.f70 2 [.tmp 4] v70 = true := by kernel_rfl

/-- (steening/knots.loom).solve -/
def v71 : VC :=
 (.seq
 (.ops false [
   ⟨some 1, .box 1 6 (.t 0), none⟩,
   ⟨some 2, .alloc 2 [.int 0, .int 0], none⟩] (some [1, 2]))
 (.seq
 (.ops false [
   ⟨some 13, .call 105 [.k (.int 0)], none⟩,
   ⟨some 3, .alloc 3 (zeros [.int 0, .int 0] 51), none⟩,
   ⟨none, .store 102 (.t 3) (.t 13) (some 3), none⟩] (some [1, 2, 3]))
 (.seq
 (.seq
 (.ops false [
   ⟨some 14, .fld 0 (.t 1), none⟩,
   ⟨some 15, .fld 1 (.t 14), none⟩,
   ⟨some 16, .load 1 false (.t 15) [], none⟩,
   ⟨some 17, .bin .sub (.t 16) (.k (.int 1)), none⟩,
   ⟨some 4, .mov (.t 17), none⟩] (some [1, 2, 3, 4]))
 (.block 0
  (.loop
   (.seq
   (.seq
   (.ops false [
     ⟨some 18, .mov (.t 4), none⟩,
     ⟨some 19, .bin .geq (.t 18) (.k (.int 0)), none⟩] (some [1, 2, 3, 4, 19]))
   (.cond (.t 19)
    .skip
    (.exit 0)))
   (.seq
   (.block 1
    (.seq
    (.ops false [
      ⟨some 22, .load 102 true (.t 3) [], none⟩,
      ⟨some 5, .alloc 5 (zeros [.int 0, .int 0] 51), none⟩,
      ⟨none, .store 102 (.t 5) (.t 22) (some 5), none⟩] (some [1, 2, 3, 4, 5]))
    (.seq
    (.seq
    (.ops false [
      ⟨some 23, .fld 0 (.t 1), none⟩,
      ⟨some 24, .fld 2 (.t 23), none⟩,
      ⟨some 25, .load 1 false (.t 24) [], none⟩,
      ⟨some 26, .len (.t 25), none⟩,
      ⟨some 27, .mov (.k (.int 0)), none⟩] (some [1, 2, 3, 4, 5, 26, 27]))
    (.block 2
     (.loop
      (.seq
      (.ops false [
        ⟨some 28, .bin .lss (.t 27) (.t 26), none⟩] (some [1, 2, 3, 4, 5, 26, 27, 28]))
      (.seq
      (.cond (.t 28)
       .skip
       (.exit 2))
      (.seq
      (.block 3
       (.seq
       (.ops false [
         ⟨some 29, .mov (.t 27), none⟩,
         ⟨some 6, .mov (.t 29), none⟩] (some [1, 2, 3, 4, 5, 6, 26, 27]))
       (.ops false [
         ⟨some 30, .load 6 true (.t 1) [], none⟩,
         ⟨some 31, .load 102 true (.t 5) [], none⟩,
         ⟨some 32, .mov (.t 6), none⟩,
         ⟨some 33, .mov (.t 4), none⟩,
         ⟨some 34, .call 106 [.t 30, .t 31, .t 32, .t 33], none⟩,
         ⟨none, .store 102 (.t 5) (.t 34) (some 5), none⟩] (some [1, 2, 3, 4, 5, 26, 27]))))
      (.ops false [
        ⟨some 35, .bin .add (.t 27) (.k (.int 1)), none⟩,
        ⟨some 27, .mov (.t 35), none⟩] (some [1, 2, 3, 4, 5, 26, 27]))))))))
    (.seq
    (.ops false [
      ⟨some 36, .call 105 [.k (.int 0)], none⟩,
      ⟨none, .store 102 (.t 3) (.t 36) (some 3), none⟩] (some [1, 2, 3, 4, 5]))
    (.seq
    (.ops false [
      ⟨some 37, .build [.int 0, .int 0] [(0, 1, .k (.int 1048576)), (1, 1, .k (.int 0))], none⟩,
      ⟨some 38, .idxA 51 2 (.t 3) (.k (.int 0)), none⟩,
      ⟨none, .store 2 (.t 38) (.t 37) (some 3), none⟩] (some [1, 2, 3, 4, 5]))
    (.seq
    (.ops false [
      ⟨some 39, .load 102 true (.t 5) [], none⟩,
      ⟨some 40, .mov (.k (.int 0)), none⟩] (some [1, 2, 3, 4, 39, 40]))
    (.block 4
     (.loop
      (.seq
      (.ops false [
        ⟨some 41, .bin .lss (.t 40) (.k (.int 51)), none⟩] (some [1, 2, 3, 4, 39, 40, 41]))
      (.seq
      (.cond (.t 41)
       .skip
       (.exit 4))
      (.seq
      (.block 5
       (.seq
       (.ops false [
         ⟨some 42, .mov (.t 40), none⟩,
         ⟨some 43, .indexV 51 2 true (.t 39) (.t 40), none⟩,
         ⟨some 8, .alloc 8 [.int 0, .int 0], none⟩,
         ⟨some 7, .mov (.t 42), none⟩,
         ⟨none, .store 2 (.t 8) (.t 43) (some 8), none⟩] (some [1, 2, 3, 4, 7, 8, 39, 40]))
       (.seq
       (.ops true [
         ⟨some 44, .mov (.t 7), none⟩,
         ⟨some 45, .fld 0 (.t 1), none⟩,
         ⟨some 46, .fld 0 (.t 45), none⟩,
         ⟨some 47, .load 1 false (.t 46) [], none⟩,
         ⟨some 48, .bin .rem (.t 44) (.t 47), none⟩,
         ⟨some 49, .mov (.t 7), none⟩,
         ⟨some 50, .fld 0 (.t 1), none⟩,
         ⟨some 51, .fld 0 (.t 50), none⟩,
         ⟨some 52, .load 1 false (.t 51) [], none⟩,
         ⟨some 53, .bin .quo (.t 49) (.t 52), none⟩,
         ⟨some 9, .mov (.t 48), none⟩,
         ⟨some 10, .mov (.t 53), none⟩] (some [1, 2, 3, 4, 8, 9, 10, 39, 40]))
       (.seq
       (.seq
       (.ops false [
         ⟨some 54, .fld 4 (.t 1), none⟩,
         ⟨some 55, .load 1 false (.t 54) [], none⟩,
         ⟨some 56, .fld 0 (.t 1), none⟩,
         ⟨some 57, .fld 2 (.t 56), none⟩,
         ⟨some 58, .load 1 false (.t 57) [], none⟩,
         ⟨some 59, .len (.t 58), none⟩,
         ⟨some 60, .mov (.t 4), none⟩,
         ⟨some 61, .mov (.t 9), none⟩,
         ⟨some 62, .callv (.t 55) [.t 59, .t 60, .t 61], none⟩,
         ⟨some 63, .not (.t 62), none⟩,
         ⟨some 64, .mov (.t 63), none⟩,
         ⟨some 65, .fld 5 (.t 1), some (64, false)⟩,
         ⟨some 66, .load 1 false (.t 65) [], some (64, false)⟩,
         ⟨some 67, .mov (.t 4), some (64, false)⟩,
         ⟨some 68, .mov (.t 10), some (64, false)⟩,
         ⟨some 69, .callv (.t 66) [.t 67, .t 68], some (64, false)⟩,
         ⟨some 70, .not (.t 69), some (64, false)⟩,
         ⟨some 71, .pick (.t 64) (.k (.bool true)) (.t 70), none⟩] (some [1, 2, 3, 4, 8, 9, 10, 39, 40, 71]))
       (.cond (.t 71)
        (.exit 5)
        .skip))
       (.seq
       (.ops true [
         ⟨some 72, .fld 0 (.t 1), none⟩,
         ⟨some 73, .fld 3 (.t 72), none⟩,
         ⟨some 74, .load 1 false (.t 73) [], none⟩,
         ⟨some 75, .mov (.t 4), none⟩,
         ⟨some 76, .idx 2 (.t 74) (.t 75), none⟩,
         ⟨some 77, .load 2 true (.t 76) [], none⟩,
         ⟨some 78, .mov (.t 9), none⟩,
         ⟨some 79, .call 73 [.t 77, .t 78], none⟩,
         ⟨some 80, .mov (.t 10), none⟩,
         ⟨some 81, .idxA 51 2 (.t 3) (.t 80), none⟩,
         ⟨some 11, .mov (.t 79), none⟩,
         ⟨some 12, .mov (.t 81), none⟩] (some [1, 2, 3, 4, 8, 11, 12, 39, 40]))
       (.seq
       (.ops true [
         ⟨some 82, .mov (.t 12), none⟩,
         ⟨some 83, .mov (.t 12), none⟩,
         ⟨some 84, .nilck (.t 83), none⟩,
         ⟨some 85, .fld 0 (.t 84), none⟩,
         ⟨some 86, .load 1 false (.t 85) [], none⟩,
         ⟨some 87, .fld 0 (.t 8), none⟩,
         ⟨some 88, .load 1 false (.t 87) [], none⟩,
         ⟨some 89, .mov (.t 11), none⟩,
         ⟨some 90, .bin .add (.t 88) (.t 89), none⟩,
         ⟨some 91, .min (.t 86) (.t 90), none⟩,
         ⟨some 92, .nilck (.t 82), none⟩,
         ⟨some 93, .fld 0 (.t 92), none⟩,
         ⟨none, .store 1 (.t 93) (.t 91) none, none⟩] (some [1, 2, 3, 4, 8, 11, 12, 39, 40]))
       (.seq
       (.ops false [
         ⟨some 94, .mov (.t 11), none⟩,
         ⟨some 95, .bin .eql (.t 94) (.k (.int 0)), none⟩] (some [1, 2, 3, 4, 8, 12, 39, 40, 95]))
       (.cond (.t 95)
        (.ops true [
          ⟨some 96, .mov (.t 12), none⟩,
          ⟨some 97, .nilck (.t 96), none⟩,
          ⟨some 98, .fld 1 (.t 97), none⟩,
          ⟨some 99, .load 1 false (.t 98) [], none⟩,
          ⟨some 100, .fld 1 (.t 8), none⟩,
          ⟨some 101, .load 1 false (.t 100) [], none⟩,
          ⟨some 102, .bin .add (.t 99) (.t 101), none⟩,
          ⟨some 103, .nilck (.t 96), none⟩,
          ⟨some 104, .fld 1 (.t 103), none⟩,
          ⟨none, .store 1 (.t 104) (.t 102) none, none⟩] (some [1, 2, 3, 4, 39, 40]))
        .skip))))))))
      (.ops false [
        ⟨some 105, .bin .add (.t 40) (.k (.int 1)), none⟩,
        ⟨some 40, .mov (.t 105), none⟩] (some [1, 2, 3, 4, 39, 40])))))))))))))
   (.ops false [
     ⟨some 20, .mov (.t 4), none⟩,
     ⟨some 21, .bin .sub (.t 20) (.k (.int 1)), none⟩,
     ⟨some 4, .mov (.t 21), none⟩] (some [1, 2, 3, 4])))))))
 (.seq
 (.ops false [
   ⟨some 106, .idxA 51 2 (.t 3) (.k (.int 0)), none⟩,
   ⟨some 107, .load 2 true (.t 106) [], none⟩,
   ⟨none, .store 2 (.t 2) (.t 107) (some 2), none⟩] (some [2]))
 .ret))))

theorem m71 : fmatch Try.prog Try.f71 1 [.cell 2 84] v71 = true := by kernel_rfl

/-- steening/steeningref11.reties -/
def v72 : VC :=
 (.seq
 (.ops false [
   ⟨some 1, .box 1 4 (.t 0), none⟩,
   ⟨some 2, .nils 2 1, none⟩,
   ⟨some 3, .mov (.k (.int 0)), none⟩] (some [1]))
 (.seq
 (.ops false [
   ⟨some 9, .load 4 true (.t 1) [], none⟩,
   ⟨some 10, .call 68 [.t 9, .k (.sl 1 [] .full), .k (.bool true)], none⟩,
   ⟨some 4, .mov (.t 10), none⟩] (some [1, 4]))
 (.seq
 (.ops true [
   ⟨some 11, .load 4 true (.t 1) [], none⟩,
   ⟨some 12, .mov (.t 4), none⟩,
   ⟨some 13, .idx 1 (.t 12) (.k (.int 0)), none⟩,
   ⟨some 14, .load 1 false (.t 13) [], none⟩,
   ⟨some 15, .call 107 [.t 11, .t 14], none⟩,
   ⟨some 5, .mov (.t 15), none⟩] (some [1, 4, 5]))
 (.seq
 (.seq
 (.ops false [
   ⟨some 6, .mov (.k (.int 0)), none⟩] (some [1, 4, 5, 6]))
 (.block 0
  (.loop
   (.seq
   (.seq
   (.ops false [
     ⟨some 16, .mov (.t 6), none⟩,
     ⟨some 17, .mov (.t 4), none⟩,
     ⟨some 18, .len (.t 17), none⟩,
     ⟨some 19, .bin .lss (.t 16) (.t 18), none⟩] (some [1, 4, 5, 6, 19]))
   (.cond (.t 19)
    .skip
    (.exit 0)))
   (.seq
   (.block 1
    (.ops true [
      ⟨some 22, .mov (.t 5), none⟩,
      ⟨some 23, .load 4 true (.t 1) [], none⟩,
      ⟨some 24, .mov (.t 4), none⟩,
      ⟨some 25, .mov (.t 6), none⟩,
      ⟨some 26, .idx 1 (.t 24) (.t 25), none⟩,
      ⟨some 27, .load 1 false (.t 26) [], none⟩,
      ⟨some 28, .call 107 [.t 23, .t 27], none⟩,
      ⟨some 29, .min (.t 22) (.t 28), none⟩,
      ⟨some 5, .mov (.t 29), none⟩] (some [1, 4, 5, 6])))
   (.ops false [
     ⟨some 20, .mov (.t 6), none⟩,
     ⟨some 21, .bin .add (.t 20) (.k (.int 1)), none⟩,
     ⟨some 6, .mov (.t 21), none⟩] (some [1, 4, 5, 6])))))))
 (.seq
 (.ops false [
   ⟨some 7, .nils 7 1, none⟩] (some [1, 4, 5, 7]))
 (.seq
 (.seq
 (.ops false [
   ⟨some 8, .mov (.k (.int 0)), none⟩] (some [1, 4, 5, 7, 8]))
 (.block 2
  (.loop
   (.seq
   (.seq
   (.ops false [
     ⟨some 30, .mov (.t 8), none⟩,
     ⟨some 31, .mov (.t 4), none⟩,
     ⟨some 32, .len (.t 31), none⟩,
     ⟨some 33, .bin .lss (.t 30) (.t 32), none⟩] (some [1, 4, 5, 7, 8, 33]))
   (.cond (.t 33)
    .skip
    (.exit 2)))
   (.seq
   (.block 3
    (.seq
    (.ops true [
      ⟨some 36, .load 4 true (.t 1) [], none⟩,
      ⟨some 37, .mov (.t 4), none⟩,
      ⟨some 38, .mov (.t 8), none⟩,
      ⟨some 39, .idx 1 (.t 37) (.t 38), none⟩,
      ⟨some 40, .load 1 false (.t 39) [], none⟩,
      ⟨some 41, .call 107 [.t 36, .t 40], none⟩,
      ⟨some 42, .mov (.t 5), none⟩,
      ⟨some 43, .bin .eql (.t 41) (.t 42), none⟩] (some [1, 4, 5, 7, 8, 43]))
    (.cond (.t 43)
     (.ops false [
       ⟨some 44, .mov (.t 7), none⟩,
       ⟨some 45, .mov (.t 4), none⟩,
       ⟨some 46, .mov (.t 8), none⟩,
       ⟨some 47, .idx 1 (.t 45) (.t 46), none⟩,
       ⟨some 48, .load 1 false (.t 47) [], none⟩,
       ⟨some 49, .bslice 1 [.t 48], none⟩,
       ⟨some 50, .app 50 1 24 (.t 44) (.t 49), none⟩,
       ⟨some 7, .mov (.t 50), none⟩] (some [1, 4, 5, 7, 8]))
     .skip)))
   (.ops false [
     ⟨some 34, .mov (.t 8), none⟩,
     ⟨some 35, .bin .add (.t 34) (.k (.int 1)), none⟩,
     ⟨some 8, .mov (.t 35), none⟩] (some [1, 4, 5, 7, 8])))))))
 (.seq
 (.ops false [
   ⟨some 51, .mov (.t 7), none⟩,
   ⟨some 52, .mov (.t 5), none⟩,
   ⟨some 2, .mov (.t 51), none⟩,
   ⟨some 3, .mov (.t 52), none⟩] (some [2, 3]))
 .ret)))))))

theorem m72 : fmatch Try.prog Try.f72 1 [.tmp 2, .tmp 3] v72 = true := by kernel_rfl

/-- steening/knots.tied -/
def v73 : VC :=
 (.seq
 (.ops false [
   ⟨some 2, .box 2 2 (.t 0), none⟩,
   ⟨some 4, .mov (.k (.int 0)), none⟩] (some [1, 2]))
 (.seq
 (.ops false [
   ⟨some 5, .fld 0 (.t 2), none⟩,
   ⟨some 6, .load 1 false (.t 5) [], none⟩,
   ⟨some 7, .mov (.t 1), none⟩,
   ⟨some 8, .bin .sub (.t 6) (.t 7), none⟩,
   ⟨some 9, .mov (.t 1), none⟩,
   ⟨some 10, .fld 1 (.t 2), none⟩,
   ⟨some 11, .load 1 false (.t 10) [], none⟩,
   ⟨some 12, .bin .sub (.t 9) (.t 11), none⟩,
   ⟨some 13, .max3 (.k (.int 0)) (.t 8) (.t 12), none⟩,
   ⟨some 4, .mov (.t 13), none⟩] (some [4]))
 .ret))

theorem m73 : fmatch Try.prog Try.f73 2 [.tmp 4] v73 = true := by kernel_rfl

/-- (steening/knots.loom).only -/
def v74 : VC :=
 (.seq
 (.ops false [
   ⟨some 4, .box 4 6 (.t 0), none⟩,
   ⟨some 5, .box 5 1 (.t 1), none⟩,
   ⟨some 6, .box 6 1 (.t 2), none⟩,
   ⟨some 7, .box 7 1 (.t 3), none⟩,
   ⟨some 8, .alloc 8 [.int 0, .int 0, .sl 1 [] .full, .sl 2 [] .full, .und, .und], none⟩] (some [4, 5, 6, 7, 8]))
 (.seq
 (.ops false [
   ⟨some 10, .fld 4 (.t 4), none⟩,
   ⟨some 11, .load 1 false (.t 10) [], none⟩,
   ⟨some 9, .alloc 9 [.und], none⟩,
   ⟨none, .store 1 (.t 9) (.t 11) (some 9), none⟩] (some [4, 5, 6, 7, 8, 9]))
 (.seq
 (.ops false [
   ⟨some 12, .mkf 108 [.t 9, .t 5, .t 6, .t 7], none⟩,
   ⟨some 13, .fld 4 (.t 4), none⟩,
   ⟨none, .store 1 (.t 13) (.t 12) (some 4), none⟩] (some [4, 8]))
 (.seq
 (.ops false [
   ⟨some 14, .load 6 true (.t 4) [], none⟩,
   ⟨none, .store 6 (.t 8) (.t 14) (some 8), none⟩] (some [8]))
 .ret))))

theorem m74 : fmatch Try.prog Try.f74 4 [.cell 8 74] v74 = true := by kernel_rfl

/-- steening/steeningref11.Knots -/
def v75 : VC :=
 (.seq
 (.ops false [
   ⟨some 4, .mov (.k (.int 0)), none⟩] (some [0, 1]))
 (.seq
 (.ops false [
   ⟨some 5, .mov (.k (.int 0)), none⟩] (some [0, 1, 5]))
 (.seq
 (.seq
 (.ops false [
   ⟨some 6, .mov (.k (.int 0)), none⟩] (some [0, 1, 5, 6]))
 (.block 0
  (.loop
   (.seq
   (.seq
   (.ops false [
     ⟨some 7, .mov (.t 6), none⟩,
     ⟨some 8, .mov (.t 0), none⟩,
     ⟨some 9, .len (.t 8), none⟩,
     ⟨some 10, .bin .lss (.t 7) (.t 9), none⟩] (some [0, 1, 5, 6, 10]))
   (.cond (.t 10)
    .skip
    (.exit 0)))
   (.seq
   (.block 1
    (.ops true [
      ⟨some 13, .mov (.t 5), none⟩,
      ⟨some 14, .mov (.t 0), none⟩,
      ⟨some 15, .mov (.t 6), none⟩,
      ⟨some 16, .idx 2 (.t 14) (.t 15), none⟩,
      ⟨some 17, .fld 0 (.t 16), none⟩,
      ⟨some 18, .load 1 false (.t 17) [], none⟩,
      ⟨some 19, .mov (.t 1), none⟩,
      ⟨some 20, .mov (.t 6), none⟩,
      ⟨some 21, .idx 1 (.t 19) (.t 20), none⟩,
      ⟨some 22, .load 1 false (.t 21) [], none⟩,
      ⟨some 23, .bin .sub (.t 18) (.t 22), none⟩,
      ⟨some 24, .mov (.t 1), none⟩,
      ⟨some 25, .mov (.t 6), none⟩,
      ⟨some 26, .idx 1 (.t 24) (.t 25), none⟩,
      ⟨some 27, .load 1 false (.t 26) [], none⟩,
      ⟨some 28, .mov (.t 0), none⟩,
      ⟨some 29, .mov (.t 6), none⟩,
      ⟨some 30, .idx 2 (.t 28) (.t 29), none⟩,
      ⟨some 31, .fld 1 (.t 30), none⟩,
      ⟨some 32, .load 1 false (.t 31) [], none⟩,
      ⟨some 33, .bin .sub (.t 27) (.t 32), none⟩,
      ⟨some 34, .max3 (.k (.int 0)) (.t 23) (.t 33), none⟩,
      ⟨some 35, .bin .add (.t 13) (.t 34), none⟩,
      ⟨some 5, .mov (.t 35), none⟩] (some [0, 1, 5, 6])))
   (.ops false [
     ⟨some 11, .mov (.t 6), none⟩,
     ⟨some 12, .bin .add (.t 11) (.k (.int 1)), none⟩,
     ⟨some 6, .mov (.t 12), none⟩] (some [0, 1, 5, 6])))))))
 (.seq
 (.ops false [
   ⟨some 36, .mov (.t 5), none⟩,
   ⟨some 4, .mov (.t 36), none⟩] (some [4]))
 .ret))))

theorem m75 : fmatch Try.prog Try.f75 2 [.tmp 4] v75 = true := by kernel_rfl

/-- steening/steeningref11.within -/
def v76 : VC :=
 (.seq
 (.ops false [
   ⟨some 6, .mov (.k (.bool false)), none⟩] (some [0, 1, 2]))
 (.seq
 (.ops false [
   ⟨some 7, .mov (.t 0), none⟩,
   ⟨some 8, .mov (.t 1), none⟩,
   ⟨some 9, .mov (.t 2), none⟩,
   ⟨some 10, .call 40 [.t 7, .t 8, .t 9], none⟩,
   ⟨some 6, .mov (.t 10), none⟩] (some [6]))
 .ret))

theorem m76 : fmatch Try.prog Try.f76 3 [.tmp 6] v76 = true := by kernel_rfl

/-- steening/knots.known -/
def v77 : VC :=
 (.seq
 (.ops false [
   ⟨some 2, .box 2 4 (.t 0), none⟩,
   ⟨some 4, .alloc 4 [.int 0, .int 0, .sl 1 [] .full, .sl 2 [] .full, .und, .und], none⟩,
   ⟨some 5, .mov (.k (.int 0)), none⟩] (some [1, 2, 4]))
 (.seq
 (.seq
 (.ops false [
   ⟨some 8, .load 4 true (.t 2) [], none⟩,
   ⟨some 9, .mov (.t 1), none⟩,
   ⟨some 10, .call 85 [.t 8, .t 9], none⟩,
   ⟨some 6, .mov (.t 10), none⟩] (some [2, 4, 6]))
 (.seq
 (.ops false [
   ⟨some 11, .mov (.t 6), none⟩,
   ⟨some 12, .bin .neq (.t 11) (.k (.int 0)), none⟩] (some [2, 4, 6, 12]))
 (.cond (.t 12)
  (.seq
  (.ops false [
    ⟨some 13, .build [.int 0, .int 0, .sl 1 [] .sh, .sl 2 [] .sh, .und, .und] [], none⟩,
    ⟨some 14, .mov (.t 6), none⟩,
    ⟨none, .store 6 (.t 4) (.t 13) (some 4), none⟩,
    ⟨some 5, .mov (.t 14), none⟩] (some [4, 5]))
  .ret)
  .skip)))
 (.seq
 (.ops false [
   ⟨some 15, .load 4 true (.t 2) [], none⟩,
   ⟨some 16, .call 64 [.t 15], none⟩,
   ⟨some 7, .alloc 7 [.int 0, .int 0, .sl 1 [] .full, .sl 2 [] .full, .und, .und], none⟩,
   ⟨none, .store 6 (.t 7) (.t 16) (some 7), none⟩] (some [4, 7]))
 (.seq
 (.seq
 (.ops false [
   ⟨some 17, .load 6 true (.t 7) [], none⟩,
   ⟨some 18, .call 65 [.t 17], none⟩,
   ⟨some 19, .bin .eql (.t 18) (.k (.int 0)), none⟩] (some [4, 7, 19]))
 (.cond (.t 19)
  (.seq
  (.ops false [
    ⟨some 20, .build [.int 0, .int 0, .sl 1 [] .sh, .sl 2 [] .sh, .und, .und] [], none⟩,
    ⟨none, .store 6 (.t 4) (.t 20) (some 4), none⟩,
    ⟨some 5, .mov (.k (.int 3)), none⟩] (some [4, 5]))
  .ret)
  .skip))
 (.seq
 (.ops false [
   ⟨some 21, .load 6 true (.t 7) [], none⟩,
   ⟨none, .store 6 (.t 4) (.t 21) (some 4), none⟩,
   ⟨some 5, .mov (.k (.int 0)), none⟩] (some [4, 5]))
 .ret)))))

theorem m77 : fmatch Try.prog Try.f77 2 [.cell 4 74, .tmp 5] v77 = true := by kernel_rfl

/-- steening/knots.has -/
def v78 : VC :=
 (.seq
 (.ops false [
   ⟨some 2, .box 2 4 (.t 0), none⟩,
   ⟨some 4, .mov (.k (.bool false)), none⟩] (some [1, 2]))
 (.seq
 (.ops false [
   ⟨some 5, .mov (.t 1), none⟩,
   ⟨some 6, .fld 2 (.t 2), none⟩,
   ⟨some 7, .load 1 false (.t 6) [], none⟩,
   ⟨some 8, .len (.t 7), none⟩,
   ⟨some 9, .call 86 [.t 5, .k (.int 0), .t 8], none⟩,
   ⟨some 4, .mov (.t 9), none⟩] (some [4]))
 .ret))

theorem m78 : fmatch Try.prog Try.f78 2 [.tmp 4] v78 = true := by kernel_rfl

/-- steening/knots.Sure$1 -/
def v79 : VC :=
 (.seq
 (.ops false [
   ⟨some 5, .mov (.k (.int 0)), none⟩] (some [0, 1, 2, 3]))
 (.seq
 (.ops true [
   ⟨some 10, .load 6 true (.t 1) [7], none⟩,
   ⟨some 7, .alloc 7 [.int 0, .int 0, .sl 1 [] .full, .sl 2 [] .full, .und, .und], none⟩,
   ⟨some 6, .mov (.k (.int 0)), none⟩,
   ⟨none, .store 6 (.t 7) (.t 10) (some 7), none⟩] (some [0, 2, 3, 6, 7]))
 (.seq
 (.seq
 (.ops false [
   ⟨some 11, .fld 1 (.t 2), none⟩,
   ⟨some 12, .load 1 false (.t 11) [], none⟩,
   ⟨some 13, .mov (.k (.int 0)), none⟩] (some [0, 2, 3, 6, 7, 12, 13]))
 (.block 0
  (.loop
   (.seq
   (.ops false [
     ⟨some 14, .bin .lss (.t 13) (.t 12), none⟩] (some [0, 2, 3, 6, 7, 12, 13, 14]))
   (.seq
   (.cond (.t 14)
    .skip
    (.exit 0))
   (.seq
   (.block 1
    (.seq
    (.ops false [
      ⟨some 15, .mov (.t 13), none⟩,
      ⟨some 8, .mov (.t 15), none⟩] (some [0, 2, 3, 6, 7, 8, 12, 13]))
    (.seq
    (.ops false [
      ⟨some 16, .mov (.t 0), none⟩,
      ⟨some 17, .load 6 true (.t 7) [], none⟩,
      ⟨some 18, .load 1 false (.t 3) [], none⟩,
      ⟨some 19, .mov (.t 8), none⟩,
      ⟨some 20, .call 80 [.t 17, .t 18, .t 19], none⟩,
      ⟨some 21, .callv (.t 16) [.t 20], none⟩,
      ⟨some 9, .mov (.t 21), none⟩] (some [0, 2, 3, 6, 7, 8, 9, 12, 13]))
    (.ops true [
      ⟨some 22, .fld 0 (.t 2), none⟩,
      ⟨some 23, .load 1 false (.t 22) [7], none⟩,
      ⟨some 24, .mov (.t 6), none⟩,
      ⟨some 25, .mov (.t 9), none⟩,
      ⟨some 26, .bslice 1 [.t 24, .t 25], none⟩,
      ⟨some 27, .call 81 [.t 23, .t 26], none⟩,
      ⟨some 28, .load 6 true (.t 7) [], none⟩,
      ⟨some 29, .load 1 false (.t 3) [7], none⟩,
      ⟨some 30, .mov (.t 8), none⟩,
      ⟨some 31, .mov (.t 9), none⟩,
      ⟨some 32, .call 74 [.t 28, .t 29, .t 30, .t 31], none⟩,
      ⟨some 6, .mov (.t 27), none⟩,
      ⟨none, .store 6 (.t 7) (.t 32) (some 7), none⟩] (some [0, 2, 3, 6, 7, 12, 13])))))
   (.ops false [
     ⟨some 33, .bin .add (.t 13) (.k (.int 1)), none⟩,
     ⟨some 13, .mov (.t 33), none⟩] (some [0, 2, 3, 6, 7, 12, 13]))))))))
 (.seq
 (.ops false [
   ⟨some 34, .mov (.t 6), none⟩,
   ⟨some 5, .mov (.t 34), none⟩] (some [5]))
 .ret))))

theorem m79 : fmatch Try.prog Try.f79 4 [.tmp 5] v79 = true := by kernel_rfl

/-- (steening/knots.loom).span -/
def v80 : VC :=
 (.seq
 (.ops false [
   ⟨some 3, .box 3 6 (.t 0), none⟩,
   ⟨some 6, .alloc 6 [.int 0, .int 0], none⟩] (some [1, 2, 3, 6]))
 (.seq
 (.ops false [
   ⟨some 9, .fld 0 (.t 3), none⟩,
   ⟨some 10, .fld 0 (.t 9), none⟩,
   ⟨some 11, .load 1 false (.t 10) [], none⟩,
   ⟨some 12, .build [.int 0, .int 0] [(0, 1, .t 11)], none⟩,
   ⟨some 7, .alloc 7 [.int 0, .int 0], none⟩,
   ⟨none, .store 2 (.t 7) (.t 12) (some 7), none⟩] (some [1, 2, 3, 6, 7]))
 (.seq
 (.seq
 (.ops false [
   ⟨some 13, .load 6 true (.t 3) [], none⟩,
   ⟨some 14, .mov (.t 1), none⟩,
   ⟨some 15, .mov (.t 2), none⟩,
   ⟨some 16, .call 67 [.t 13, .t 14, .t 15], none⟩] (some [6, 7, 16]))
 (.block 0
  (.range (.t 16) [17, 18]
   (.ops false [
     ⟨some 8, .mov (.t 17), none⟩] (some [7, 8]))
   (.block 1
    (.ops false [
      ⟨some 19, .fld 0 (.t 7), none⟩,
      ⟨some 20, .load 1 false (.t 19) [], none⟩,
      ⟨some 21, .mov (.t 8), none⟩,
      ⟨some 22, .min (.t 20) (.t 21), none⟩,
      ⟨some 23, .fld 1 (.t 7), none⟩,
      ⟨some 24, .load 1 false (.t 23) [], none⟩,
      ⟨some 25, .mov (.t 8), none⟩,
      ⟨some 26, .max (.t 24) (.t 25), none⟩,
      ⟨some 27, .build [.int 0, .int 0] [(0, 1, .t 22), (1, 1, .t 26)], none⟩,
      ⟨none, .store 2 (.t 7) (.t 27) (some 7), none⟩] (some []))))))
 (.seq
 (.ops false [
   ⟨some 28, .load 2 true (.t 7) [], none⟩,
   ⟨none, .store 2 (.t 6) (.t 28) (some 6), none⟩] (some [6]))
 .ret))))

theorem m80 : fmatch Try.prog Try.f80 3 [.cell 6 42] v80 = true := by kernel_rfl

/-- steening/knots.number -/
def v81 : VC :=
 (.seq
 (.ops false [
   ⟨some 4, .mov (.k (.int 0)), none⟩] (some [0, 1]))
 (.seq
 (.ops false [
   ⟨some 5, .mov (.k (.int 0)), none⟩] (some [0, 1, 5]))
 (.seq
 (.seq
 (.ops false [
   ⟨some 8, .mov (.t 1), none⟩,
   ⟨some 9, .len (.t 8), none⟩,
   ⟨some 10, .mov (.k (.int 0)), none⟩] (some [0, 5, 8, 9, 10]))
 (.block 0
  (.loop
   (.seq
   (.ops false [
     ⟨some 11, .bin .lss (.t 10) (.t 9), none⟩] (some [0, 5, 8, 9, 10, 11]))
   (.seq
   (.cond (.t 11)
    .skip
    (.exit 0))
   (.seq
   (.block 1
    (.seq
    (.ops false [
      ⟨some 12, .idx 1 (.t 8) (.t 10), none⟩,
      ⟨some 13, .load 1 false (.t 12) [], none⟩,
      ⟨some 7, .mov (.t 13), none⟩] (some [0, 5, 7, 8, 9, 10]))
    (.ops false [
      ⟨some 14, .mov (.t 5), none⟩,
      ⟨some 15, .mov (.t 0), none⟩,
      ⟨some 16, .bin .mul (.t 14) (.t 15), none⟩,
      ⟨some 17, .mov (.t 7), none⟩,
      ⟨some 18, .bin .add (.t 16) (.t 17), none⟩,
      ⟨some 5, .mov (.t 18), none⟩] (some [0, 5, 8, 9, 10]))))
   (.ops false [
     ⟨some 19, .bin .add (.t 10) (.k (.int 1)), none⟩,
     ⟨some 10, .mov (.t 19), none⟩] (some [0, 5, 8, 9, 10]))))))))
 (.seq
 (.ops false [
   ⟨some 20, .mov (.t 5), none⟩,
   ⟨some 4, .mov (.t 20), none⟩] (some [4]))
 .ret))))

theorem m81 : fmatch Try.prog Try.f81 2 [.tmp 4] v81 = true := by kernel_rfl

/-- steening/knots.Sure$2 -/
def v82 : VC :=
 (.seq
 (.ops false [
   ⟨some 1, .box 1 2 (.t 0), none⟩,
   ⟨some 2, .mov (.k (.int 0)), none⟩] (some [1]))
 (.seq
 (.ops false [
   ⟨some 3, .fld 0 (.t 1), none⟩,
   ⟨some 4, .load 1 false (.t 3) [], none⟩,
   ⟨some 2, .mov (.t 4), none⟩] (some [2]))
 .ret))

theorem m82 : fmatch Try.prog Try.f82 1 [.tmp 2] v82 = true := by kernel_rfl

/-- steening/knots.Sure$3 -/
def v83 : VC :=
 (.seq
 (.ops false [
   ⟨some 1, .box 1 2 (.t 0), none⟩,
   ⟨some 2, .mov (.k (.int 0)), none⟩] (some [1]))
 (.seq
 (.ops false [
   ⟨some 3, .fld 1 (.t 1), none⟩,
   ⟨some 4, .load 1 false (.t 3) [], none⟩,
   ⟨some 2, .mov (.t 4), none⟩] (some [2]))
 .ret))

theorem m83 : fmatch Try.prog Try.f83 1 [.tmp 2] v83 = true := by kernel_rfl

/-- steening/knots.hasPlace -/
def v84 : VC :=
 (.seq
 (.ops false [
   ⟨some 2, .box 2 4 (.t 0), none⟩,
   ⟨some 4, .mov (.k (.bool false)), none⟩] (some [1, 2]))
 (.seq
 (.ops false [
   ⟨some 5, .mov (.t 1), none⟩,
   ⟨some 6, .fld 1 (.t 2), none⟩,
   ⟨some 7, .load 1 false (.t 6) [], none⟩,
   ⟨some 8, .bin .sub (.t 7) (.k (.int 1)), none⟩,
   ⟨some 9, .call 86 [.t 5, .k (.int 0), .t 8], none⟩,
   ⟨some 4, .mov (.t 9), none⟩] (some [4]))
 .ret))

theorem m84 : fmatch Try.prog Try.f84 2 [.tmp 4] v84 = true := by kernel_rfl

/-- steening/knots.ask -/
def v85 : VC :=
 (.seq
 (.ops false [
   ⟨some 2, .box 2 4 (.t 0), none⟩,
   ⟨some 4, .mov (.k (.int 0)), none⟩] (some [1, 2]))
 (.seq
 (.seq
 (.ops false [
   ⟨some 6, .load 4 true (.t 2) [], none⟩,
   ⟨some 7, .call 49 [.t 6], none⟩,
   ⟨some 5, .mov (.t 7), none⟩] (some [1, 5]))
 (.seq
 (.ops false [
   ⟨some 8, .mov (.t 5), none⟩,
   ⟨some 9, .bin .neq (.t 8) (.k (.int 0)), none⟩] (some [1, 5, 9]))
 (.cond (.t 9)
  (.seq
  (.ops false [
    ⟨some 10, .mov (.t 5), none⟩,
    ⟨some 4, .mov (.t 10), none⟩] (some [4]))
  .ret)
  .skip)))
 (.seq
 (.seq
 (.ops false [
   ⟨some 11, .mov (.t 1), none⟩,
   ⟨some 12, .not (.t 11), none⟩] (some [12]))
 (.cond (.t 12)
  (.seq
  (.ops false [
    ⟨some 4, .mov (.k (.int 1)), none⟩] (some [4]))
  .ret)
  .skip))
 (.seq
 (.ops false [
   ⟨some 4, .mov (.k (.int 0)), none⟩] (some [4]))
 .ret))))

theorem m85 : fmatch Try.prog Try.f85 2 [.tmp 4] v85 = true := by kernel_rfl

/-- steening/knots.within -/
def v86 : VC :=
 (.seq
 (.ops false [
   ⟨some 6, .mov (.k (.bool false)), none⟩] (some [0, 1, 2]))
 (.seq
 (.ops false [
   ⟨some 7, .mov (.t 1), none⟩,
   ⟨some 8, .mov (.t 0), none⟩,
   ⟨some 9, .bin .leq (.t 7) (.t 8), none⟩,
   ⟨some 10, .mov (.t 9), none⟩,
   ⟨some 11, .mov (.t 0), some (10, true)⟩,
   ⟨some 12, .mov (.t 2), some (10, true)⟩,
   ⟨some 13, .bin .leq (.t 11) (.t 12), some (10, true)⟩,
   ⟨some 14, .pick (.t 10) (.t 13) (.k (.bool false)), none⟩,
   ⟨some 6, .mov (.t 14), none⟩] (some [6]))
 .ret))

theorem m86 : fmatch Try.prog Try.f86 3 [.tmp 6] v86 = true := by kernel_rfl

/-- slices.Backward[[]int,int] -/
def v87 : VC :=
 (.seq
 (.ops false [
   ⟨some 1, .box 3001 1 (.t 0), none⟩,
   ⟨some 2, .mov (.k .und), none⟩] (some [1]))
 (.seq
 (.ops false [
   ⟨some 3, .mkw 109 [.t 1], none⟩,
   ⟨some 2, .mov (.t 3), none⟩] (some [2]))
 .ret))

theorem m87 : fmatch Try.prog Try.f87 1 [.tmp 2] v87 = true := by kernel_rfl

/-- steening/knots.areDigits -/
def v88 : VC :=
 (.seq
 (.ops false [
   ⟨some 2, .box 2 4 (.t 0), none⟩,
   ⟨some 4, .mov (.k (.bool false)), none⟩] (some [1, 2]))
 (.seq
 (.ops false [
   ⟨some 5, .mov (.t 1), none⟩,
   ⟨some 6, .len (.t 5), none⟩,
   ⟨some 7, .fld 1 (.t 2), none⟩,
   ⟨some 8, .load 1 false (.t 7) [], none⟩,
   ⟨some 9, .bin .eql (.t 6) (.t 8), none⟩,
   ⟨some 10, .mov (.t 9), none⟩,
   ⟨some 11, .mov (.t 1), some (10, true)⟩,
   ⟨some 12, .mkf 111 [.t 2], some (10, true)⟩,
   ⟨some 13, .call 110 [.t 11, .t 12], some (10, true)⟩,
   ⟨some 14, .not (.t 13), some (10, true)⟩,
   ⟨some 15, .pick (.t 10) (.t 14) (.k (.bool false)), none⟩,
   ⟨some 4, .mov (.t 15), none⟩] (some [4]))
 .ret))

theorem m88 : fmatch Try.prog Try.f88 2 [.tmp 4] v88 = true := by kernel_rfl

/-- steening/knots.Carry$1 -/
def v89 : VC :=
 (.seq
 (.ops false [
   ⟨some 6, .mov (.k (.bool false)), none⟩] (some [0, 1, 2, 3]))
 (.seq
 (.ops false [
   ⟨some 7, .mov (.t 0), none⟩,
   ⟨some 8, .load 1 false (.t 2) [], none⟩,
   ⟨some 9, .bin .neq (.t 7) (.t 8), none⟩,
   ⟨some 10, .mov (.t 9), none⟩,
   ⟨some 11, .mov (.t 1), some (10, false)⟩,
   ⟨some 12, .load 1 false (.t 3) [], some (10, false)⟩,
   ⟨some 13, .bin .eql (.t 11) (.t 12), some (10, false)⟩,
   ⟨some 14, .pick (.t 10) (.k (.bool true)) (.t 13), none⟩,
   ⟨some 6, .mov (.t 14), none⟩] (some [6]))
 .ret))

theorem m89 : fmatch Try.prog Try.f89 4 [.tmp 6] v89 = true := by kernel_rfl

/-- steening/knots.Check$1 -/
def v90 : VC :=
 (.seq
 (.ops false [
   ⟨some 3, .mov (.k (.bool false)), none⟩] (some [0, 1]))
 (.seq
 (.ops false [
   ⟨some 4, .load 4 true (.t 1) [], none⟩,
   ⟨some 5, .mov (.t 0), none⟩,
   ⟨some 6, .call 91 [.t 4, .t 5], none⟩,
   ⟨some 7, .not (.t 6), none⟩,
   ⟨some 3, .mov (.t 7), none⟩] (some [3]))
 .ret))

theorem m90 : fmatch Try.prog Try.f90 2 [.tmp 3] v90 = true := by kernel_rfl

/-- steening/knots.isCord -/
def v91 : VC :=
 (.seq
 (.ops false [
   ⟨some 2, .box 2 4 (.t 0), none⟩,
   ⟨some 4, .mov (.k (.bool false)), none⟩] (some [1, 2]))
 (.seq
 (.ops false [
   ⟨some 6, .mkf 112 [.t 2], none⟩,
   ⟨some 5, .mov (.t 6), none⟩] (some [1, 2, 5]))
 (.seq
 (.ops false [
   ⟨some 7, .mov (.t 1), none⟩,
   ⟨some 8, .len (.t 7), none⟩,
   ⟨some 9, .fld 1 (.t 2), none⟩,
   ⟨some 10, .load 1 false (.t 9) [], none⟩,
   ⟨some 11, .bin .eql (.t 8) (.t 10), none⟩,
   ⟨some 12, .mov (.t 11), none⟩,
   ⟨some 13, .mov (.t 1), some (12, true)⟩,
   ⟨some 14, .mov (.t 5), some (12, true)⟩,
   ⟨some 15, .call 113 [.t 13, .t 14], some (12, true)⟩,
   ⟨some 16, .not (.t 15), some (12, true)⟩,
   ⟨some 17, .pick (.t 12) (.t 16) (.k (.bool false)), none⟩,
   ⟨some 4, .mov (.t 17), none⟩] (some [4]))
 .ret)))

theorem m91 : fmatch Try.prog Try.f91 2 [.tmp 4] v91 = true := by kernel_rfl

/-- slices.ContainsFunc[[][]steening/api.Span,[]steening/api.Span] -/
def v92 : VC :=
 (.seq
 (.ops false [
   ⟨some 4, .mov (.k (.bool false)), none⟩] (some [0, 1]))
 (.seq
 (.ops false [
   ⟨some 5, .mov (.t 0), none⟩,
   ⟨some 6, .mov (.t 1), none⟩,
   ⟨some 7, .call 114 [.t 5, .t 6], none⟩,
   ⟨some 8, .bin .geq (.t 7) (.k (.int 0)), none⟩,
   ⟨some 4, .mov (.t 8), none⟩] (some [4]))
 .ret))

theorem m92 : fmatch Try.prog Try.f92 2 [.tmp 4] v92 = true := by kernel_rfl

/-- steening/steeningref11.isCord -/
def v93 : VC :=
 (.seq
 (.ops false [
   ⟨some 2, .box 2 4 (.t 0), none⟩,
   ⟨some 4, .mov (.k (.bool false)), none⟩] (some [1, 2]))
 (.seq
 (.seq
 (.ops false [
   ⟨some 6, .mov (.t 1), none⟩,
   ⟨some 7, .len (.t 6), none⟩,
   ⟨some 8, .fld 1 (.t 2), none⟩,
   ⟨some 9, .load 1 false (.t 8) [], none⟩,
   ⟨some 10, .bin .neq (.t 7) (.t 9), none⟩] (some [1, 2, 10]))
 (.cond (.t 10)
  (.seq
  (.ops false [
    ⟨some 4, .mov (.k (.bool false)), none⟩] (some [4]))
  .ret)
  .skip))
 (.seq
 (.seq
 (.ops false [
   ⟨some 5, .mov (.k (.int 0)), none⟩] (some [1, 2, 5]))
 (.block 0
  (.loop
   (.seq
   (.seq
   (.ops false [
     ⟨some 11, .mov (.t 5), none⟩,
     ⟨some 12, .mov (.t 1), none⟩,
     ⟨some 13, .len (.t 12), none⟩,
     ⟨some 14, .bin .lss (.t 11) (.t 13), none⟩] (some [1, 2, 5, 14]))
   (.cond (.t 14)
    .skip
    (.exit 0)))
   (.seq
   (.block 1
    (.seq
    (.ops true [
      ⟨some 17, .mov (.t 1), none⟩,
      ⟨some 18, .mov (.t 5), none⟩,
      ⟨some 19, .idx 2 (.t 17) (.t 18), none⟩,
      ⟨some 20, .fld 1 (.t 19), none⟩,
      ⟨some 21, .load 1 false (.t 20) [], none⟩,
      ⟨some 22, .fld 0 (.t 2), none⟩,
      ⟨some 23, .load 1 false (.t 22) [], none⟩,
      ⟨some 24, .bin .sub (.t 23) (.k (.int 1)), none⟩,
      ⟨some 25, .call 76 [.t 21, .k (.int 0), .t 24], none⟩,
      ⟨some 26, .not (.t 25), none⟩,
      ⟨some 27, .mov (.t 26), none⟩,
      ⟨some 28, .mov (.t 1), some (27, false)⟩,
      ⟨some 29, .mov (.t 5), some (27, false)⟩,
      ⟨some 30, .idx 2 (.t 28) (.t 29), some (27, false)⟩,
      ⟨some 31, .fld 0 (.t 30), some (27, false)⟩,
      ⟨some 32, .load 1 false (.t 31) [], some (27, false)⟩,
      ⟨some 33, .mov (.t 1), some (27, false)⟩,
      ⟨some 34, .mov (.t 5), some (27, false)⟩,
      ⟨some 35, .idx 2 (.t 33) (.t 34), some (27, false)⟩,
      ⟨some 36, .fld 1 (.t 35), some (27, false)⟩,
      ⟨some 37, .load 1 false (.t 36) [], some (27, false)⟩,
      ⟨some 38, .call 76 [.t 32, .k (.int 0), .t 37], some (27, false)⟩,
      ⟨some 39, .not (.t 38), some (27, false)⟩,
      ⟨some 40, .pick (.t 27) (.k (.bool true)) (.t 39), none⟩] (some [1, 2, 5, 40]))
    (.cond (.t 40)
     (.seq
     (.ops false [
       ⟨some 4, .mov (.k (.bool false)), none⟩] (some [4]))
     .ret)
     .skip)))
   (.ops false [
     ⟨some 15, .mov (.t 5), none⟩,
     ⟨some 16, .bin .add (.t 15) (.k (.int 1)), none⟩,
     ⟨some 5, .mov (.t 16), none⟩] (some [1, 2, 5])))))))
 (.seq
 (.ops false [
   ⟨some 4, .mov (.k (.bool true)), none⟩] (some [4]))
 .ret))))

theorem m93 : fmatch Try.prog Try.f93 2 [.tmp 4] v93 = true := by kernel_rfl

/-- steening/knots.ends -/
def v94 : VC :=
 (.seq
 (.ops false [
   ⟨some 4, .alloc 4 [.int 0, .int 0], none⟩] (some [0, 1, 4]))
 (.seq
 (.ops false [
   ⟨some 5, .alloc 5 [.int 0, .int 0], none⟩] (some [0, 1, 4, 5]))
 (.seq
 (.seq
 (.ops false [
   ⟨some 8, .mov (.t 1), none⟩,
   ⟨some 9, .len (.t 8), none⟩,
   ⟨some 10, .mov (.k (.int 0)), none⟩] (some [0, 4, 5, 8, 9, 10]))
 (.block 0
  (.loop
   (.seq
   (.ops false [
     ⟨some 11, .bin .lss (.t 10) (.t 9), none⟩] (some [0, 4, 5, 8, 9, 10, 11]))
   (.seq
   (.cond (.t 11)
    .skip
    (.exit 0))
   (.seq
   (.block 1
    (.seq
    (.ops false [
      ⟨some 12, .idx 2 (.t 8) (.t 10), none⟩,
      ⟨some 13, .load 2 true (.t 12) [], none⟩,
      ⟨some 7, .alloc 7 [.int 0, .int 0], none⟩,
      ⟨none, .store 2 (.t 7) (.t 13) (some 7), none⟩] (some [0, 4, 5, 7, 8, 9, 10]))
    (.ops true [
      ⟨some 14, .mov (.t 0), none⟩,
      ⟨some 15, .fld 0 (.t 5), none⟩,
      ⟨some 16, .load 1 false (.t 15) [], none⟩,
      ⟨some 17, .fld 0 (.t 7), none⟩,
      ⟨some 18, .load 1 false (.t 17) [5], none⟩,
      ⟨some 19, .bslice 1 [.t 16, .t 18], none⟩,
      ⟨some 20, .call 81 [.t 14, .t 19], none⟩,
      ⟨some 21, .mov (.t 0), none⟩,
      ⟨some 22, .fld 1 (.t 5), none⟩,
      ⟨some 23, .load 1 false (.t 22) [], none⟩,
      ⟨some 24, .fld 1 (.t 7), none⟩,
      ⟨some 25, .load 1 false (.t 24) [5], none⟩,
      ⟨some 26, .bslice 1 [.t 23, .t 25], none⟩,
      ⟨some 27, .call 81 [.t 21, .t 26], none⟩,
      ⟨some 28, .build [.int 0, .int 0] [(0, 1, .t 20), (1, 1, .t 27)], none⟩,
      ⟨none, .store 2 (.t 5) (.t 28) (some 5), none⟩] (some [0, 4, 5, 8, 9, 10]))))
   (.ops false [
     ⟨some 29, .bin .add (.t 10) (.k (.int 1)), none⟩,
     ⟨some 10, .mov (.t 29), none⟩] (some [0, 4, 5, 8, 9, 10]))))))))
 (.seq
 (.ops false [
   ⟨some 30, .load 2 true (.t 5) [], none⟩,
   ⟨none, .store 2 (.t 4) (.t 30) (some 4), none⟩] (some [4]))
 .ret))))

theorem m94 : fmatch Try.prog Try.f94 2 [.cell 4 42] v94 = true := by kernel_rfl

/-- steening/steeningref11.ask -/
def v95 : VC :=
 (.seq
 (.ops false [
   ⟨some 2, .box 2 4 (.t 0), none⟩,
   ⟨some 4, .mov (.k (.int 0)), none⟩] (some [1, 2]))
 (.seq
 (.seq
 (.ops false [
   ⟨some 6, .load 4 true (.t 2) [], none⟩,
   ⟨some 7, .call 50 [.t 6], none⟩,
   ⟨some 5, .mov (.t 7), none⟩] (some [1, 5]))
 (.seq
 (.ops false [
   ⟨some 8, .mov (.t 5), none⟩,
   ⟨some 9, .bin .neq (.t 8) (.k (.int 0)), none⟩] (some [1, 5, 9]))
 (.cond (.t 9)
  (.seq
  (.ops false [
    ⟨some 10, .mov (.t 5), none⟩,
    ⟨some 4, .mov (.t 10), none⟩] (some [4]))
  .ret)
  .skip)))
 (.seq
 (.seq
 (.ops false [
   ⟨some 11, .mov (.t 1), none⟩,
   ⟨some 12, .not (.t 11), none⟩] (some [12]))
 (.cond (.t 12)
  (.seq
  (.ops false [
    ⟨some 4, .mov (.k (.int 1)), none⟩] (some [4]))
  .ret)
  .skip))
 (.seq
 (.ops false [
   ⟨some 4, .mov (.k (.int 0)), none⟩] (some [4]))
 .ret))))

theorem m95 : fmatch Try.prog Try.f95 2 [.tmp 4] v95 = true := by kernel_rfl

/-- steening/steeningref11.known -/
def v96 : VC :=
 (.seq
 (.ops false [
   ⟨some 2, .box 2 4 (.t 0), none⟩,
   ⟨some 4, .nils 4 1, none⟩,
   ⟨some 5, .mov (.k (.int 0)), none⟩] (some [1, 2]))
 (.seq
 (.seq
 (.ops false [
   ⟨some 8, .load 4 true (.t 2) [], none⟩,
   ⟨some 9, .mov (.t 1), none⟩,
   ⟨some 10, .call 95 [.t 8, .t 9], none⟩,
   ⟨some 6, .mov (.t 10), none⟩] (some [2, 6]))
 (.seq
 (.ops false [
   ⟨some 11, .mov (.t 6), none⟩,
   ⟨some 12, .bin .neq (.t 11) (.k (.int 0)), none⟩] (some [2, 6, 12]))
 (.cond (.t 12)
  (.seq
  (.ops false [
    ⟨some 13, .mov (.t 6), none⟩,
    ⟨some 4, .nils 501 1, none⟩,
    ⟨some 5, .mov (.t 13), none⟩] (some [4, 5]))
  .ret)
  .skip)))
 (.seq
 (.ops false [
   ⟨some 14, .load 4 true (.t 2) [], none⟩,
   ⟨some 15, .call 68 [.t 14, .k (.sl 1 [] .full), .k (.bool false)], none⟩,
   ⟨some 7, .mov (.t 15), none⟩] (some [7]))
 (.seq
 (.seq
 (.ops false [
   ⟨some 16, .mov (.t 7), none⟩,
   ⟨some 17, .len (.t 16), none⟩,
   ⟨some 18, .bin .eql (.t 17) (.k (.int 0)), none⟩] (some [7, 18]))
 (.cond (.t 18)
  (.seq
  (.ops false [
    ⟨some 4, .nils 502 1, none⟩,
    ⟨some 5, .mov (.k (.int 3)), none⟩] (some [4, 5]))
  .ret)
  .skip))
 (.seq
 (.ops false [
   ⟨some 19, .mov (.t 7), none⟩,
   ⟨some 4, .mov (.t 19), none⟩,
   ⟨some 5, .mov (.k (.int 0)), none⟩] (some [4, 5]))
 .ret)))))

theorem m96 : fmatch Try.prog Try.f96 2 [.tmp 4, .tmp 5] v96 = true := by kernel_rfl

/-- steening/steeningref11.span -/
def v97 : VC :=
 (.seq
 (.ops false [
   ⟨some 2, .alloc 2 [.int 0, .int 0], none⟩] (some [0, 2]))
 (.seq
 (.ops true [
   ⟨some 5, .mov (.t 0), none⟩,
   ⟨some 6, .idx 1 (.t 5) (.k (.int 0)), none⟩,
   ⟨some 7, .load 1 false (.t 6) [3], none⟩,
   ⟨some 8, .mov (.t 0), none⟩,
   ⟨some 9, .idx 1 (.t 8) (.k (.int 0)), none⟩,
   ⟨some 10, .load 1 false (.t 9) [3], none⟩,
   ⟨some 11, .build [.int 0, .int 0] [(0, 1, .t 7), (1, 1, .t 10)], none⟩,
   ⟨some 3, .alloc 3 [.int 0, .int 0], none⟩,
   ⟨none, .store 2 (.t 3) (.t 11) (some 3), none⟩] (some [0, 2, 3]))
 (.seq
 (.seq
 (.ops false [
   ⟨some 4, .mov (.k (.int 0)), none⟩] (some [0, 2, 3, 4]))
 (.block 0
  (.loop
   (.seq
   (.seq
   (.ops false [
     ⟨some 12, .mov (.t 4), none⟩,
     ⟨some 13, .mov (.t 0), none⟩,
     ⟨some 14, .len (.t 13), none⟩,
     ⟨some 15, .bin .lss (.t 12) (.t 14), none⟩] (some [0, 2, 3, 4, 15]))
   (.cond (.t 15)
    .skip
    (.exit 0)))
   (.seq
   (.block 1
    (.ops true [
      ⟨some 18, .fld 0 (.t 3), none⟩,
      ⟨some 19, .load 1 false (.t 18) [], none⟩,
      ⟨some 20, .mov (.t 0), none⟩,
      ⟨some 21, .mov (.t 4), none⟩,
      ⟨some 22, .idx 1 (.t 20) (.t 21), none⟩,
      ⟨some 23, .load 1 false (.t 22) [3], none⟩,
      ⟨some 24, .min (.t 19) (.t 23), none⟩,
      ⟨some 25, .fld 1 (.t 3), none⟩,
      ⟨some 26, .load 1 false (.t 25) [], none⟩,
      ⟨some 27, .mov (.t 0), none⟩,
      ⟨some 28, .mov (.t 4), none⟩,
      ⟨some 29, .idx 1 (.t 27) (.t 28), none⟩,
      ⟨some 30, .load 1 false (.t 29) [3], none⟩,
      ⟨some 31, .max (.t 26) (.t 30), none⟩,
      ⟨some 32, .build [.int 0, .int 0] [(0, 1, .t 24), (1, 1, .t 31)], none⟩,
      ⟨none, .store 2 (.t 3) (.t 32) (some 3), none⟩] (some [0, 2, 3, 4])))
   (.ops false [
     ⟨some 16, .mov (.t 4), none⟩,
     ⟨some 17, .bin .add (.t 16) (.k (.int 1)), none⟩,
     ⟨some 4, .mov (.t 17), none⟩] (some [0, 2, 3, 4])))))))
 (.seq
 (.ops false [
   ⟨some 33, .load 2 true (.t 3) [], none⟩,
   ⟨none, .store 2 (.t 2) (.t 33) (some 2), none⟩] (some [2]))
 .ret))))

theorem m97 : fmatch Try.prog Try.f97 1 [.cell 2 42] v97 = true := by kernel_rfl

/-- steening/steeningref11.IsSum -/
def v98 : VC :=
 (.seq
 (.ops false [
   ⟨some 2, .box 2 4 (.t 0), none⟩,
   ⟨some 4, .mov (.k (.bool false)), none⟩] (some [1, 2]))
 (.seq
 (.seq
 (.ops false [
   ⟨some 7, .mov (.t 1), none⟩,
   ⟨some 8, .len (.t 7), none⟩,
   ⟨some 9, .fld 2 (.t 2), none⟩,
   ⟨some 10, .load 1 false (.t 9) [], none⟩,
   ⟨some 11, .len (.t 10), none⟩,
   ⟨some 12, .bin .add (.t 11) (.k (.int 1)), none⟩,
   ⟨some 13, .bin .neq (.t 8) (.t 12), none⟩] (some [1, 2, 13]))
 (.cond (.t 13)
  (.seq
  (.ops false [
    ⟨some 4, .mov (.k (.bool false)), none⟩] (some [4]))
  .ret)
  .skip))
 (.seq
 (.ops false [
   ⟨some 5, .mov (.k (.int 0)), none⟩] (some [1, 2, 5]))
 (.seq
 (.seq
 (.ops false [
   ⟨some 6, .mov (.k (.int 0)), none⟩] (some [1, 2, 5, 6]))
 (.block 0
  (.loop
   (.seq
   (.seq
   (.ops false [
     ⟨some 14, .mov (.t 6), none⟩,
     ⟨some 15, .mov (.t 1), none⟩,
     ⟨some 16, .len (.t 15), none⟩,
     ⟨some 17, .bin .lss (.t 14) (.t 16), none⟩] (some [1, 2, 5, 6, 17]))
   (.cond (.t 17)
    .skip
    (.exit 0)))
   (.seq
   (.block 1
    (.seq
    (.seq
    (.ops true [
      ⟨some 20, .load 4 true (.t 2) [], none⟩,
      ⟨some 21, .mov (.t 1), none⟩,
      ⟨some 22, .mov (.t 6), none⟩,
      ⟨some 23, .idx 1 (.t 21) (.t 22), none⟩,
      ⟨some 24, .load 1 false (.t 23) [], none⟩,
      ⟨some 25, .call 43 [.t 20, .t 24], none⟩,
      ⟨some 26, .not (.t 25), none⟩] (some [1, 2, 5, 6, 26]))
    (.cond (.t 26)
     (.seq
     (.ops false [
       ⟨some 4, .mov (.k (.bool false)), none⟩] (some [4]))
     .ret)
     .skip))
    (.seq
    (.ops false [
      ⟨some 27, .mov (.t 6), none⟩,
      ⟨some 28, .fld 2 (.t 2), none⟩,
      ⟨some 29, .load 1 false (.t 28) [], none⟩,
      ⟨some 30, .len (.t 29), none⟩,
      ⟨some 31, .bin .lss (.t 27) (.t 30), none⟩] (some [1, 2, 5, 6, 31]))
    (.cond (.t 31)
     (.ops true [
       ⟨some 32, .mov (.t 5), none⟩,
       ⟨some 33, .load 4 true (.t 2) [], none⟩,
       ⟨some 34, .mov (.t 1), none⟩,
       ⟨some 35, .mov (.t 6), none⟩,
       ⟨some 36, .idx 1 (.t 34) (.t 35), none⟩,
       ⟨some 37, .load 1 false (.t 36) [], none⟩,
       ⟨some 38, .call 46 [.t 33, .t 37], none⟩,
       ⟨some 39, .bin .add (.t 32) (.t 38), none⟩,
       ⟨some 5, .mov (.t 39), none⟩] (some [1, 2, 5, 6]))
     .skip))))
   (.ops false [
     ⟨some 18, .mov (.t 6), none⟩,
     ⟨some 19, .bin .add (.t 18) (.k (.int 1)), none⟩,
     ⟨some 6, .mov (.t 19), none⟩] (some [1, 2, 5, 6])))))))
 (.seq
 (.ops true [
   ⟨some 40, .mov (.t 5), none⟩,
   ⟨some 41, .load 4 true (.t 2) [], none⟩,
   ⟨some 42, .mov (.t 1), none⟩,
   ⟨some 43, .fld 2 (.t 2), none⟩,
   ⟨some 44, .load 1 false (.t 43) [], none⟩,
   ⟨some 45, .len (.t 44), none⟩,
   ⟨some 46, .idx 1 (.t 42) (.t 45), none⟩,
   ⟨some 47, .load 1 false (.t 46) [], none⟩,
   ⟨some 48, .call 46 [.t 41, .t 47], none⟩,
   ⟨some 49, .bin .eql (.t 40) (.t 48), none⟩,
   ⟨some 4, .mov (.t 49), none⟩] (some [4]))
 .ret)))))

theorem m98 : fmatch Try.prog Try.f98 2 [.tmp 4] v98 = true := by kernel_rfl

/-- steening/steeningref11.Fits -/
def v99 : VC :=
 (.seq
 (.ops false [
   ⟨some 4, .mov (.k (.bool false)), none⟩] (some [0, 1]))
 (.seq
 (.seq
 (.ops false [
   ⟨some 5, .mov (.k (.int 0)), none⟩] (some [0, 1, 5]))
 (.block 0
  (.loop
   (.seq
   (.seq
   (.ops false [
     ⟨some 6, .mov (.t 5), none⟩,
     ⟨some 7, .mov (.t 0), none⟩,
     ⟨some 8, .len (.t 7), none⟩,
     ⟨some 9, .bin .lss (.t 6) (.t 8), none⟩] (some [0, 1, 5, 9]))
   (.cond (.t 9)
    .skip
    (.exit 0)))
   (.seq
   (.block 1
    (.seq
    (.ops true [
      ⟨some 12, .mov (.t 1), none⟩,
      ⟨some 13, .mov (.t 5), none⟩,
      ⟨some 14, .idx 1 (.t 12) (.t 13), none⟩,
      ⟨some 15, .load 1 false (.t 14) [], none⟩,
      ⟨some 16, .mov (.t 0), none⟩,
      ⟨some 17, .mov (.t 5), none⟩,
      ⟨some 18, .idx 2 (.t 16) (.t 17), none⟩,
      ⟨some 19, .fld 0 (.t 18), none⟩,
      ⟨some 20, .load 1 false (.t 19) [], none⟩,
      ⟨some 21, .mov (.t 0), none⟩,
      ⟨some 22, .mov (.t 5), none⟩,
      ⟨some 23, .idx 2 (.t 21) (.t 22), none⟩,
      ⟨some 24, .fld 1 (.t 23), none⟩,
      ⟨some 25, .load 1 false (.t 24) [], none⟩,
      ⟨some 26, .call 76 [.t 15, .t 20, .t 25], none⟩,
      ⟨some 27, .not (.t 26), none⟩] (some [0, 1, 5, 27]))
    (.cond (.t 27)
     (.seq
     (.ops false [
       ⟨some 4, .mov (.k (.bool false)), none⟩] (some [4]))
     .ret)
     .skip)))
   (.ops false [
     ⟨some 10, .mov (.t 5), none⟩,
     ⟨some 11, .bin .add (.t 10) (.k (.int 1)), none⟩,
     ⟨some 5, .mov (.t 11), none⟩] (some [0, 1, 5])))))))
 (.seq
 (.ops false [
   ⟨some 4, .mov (.k (.bool true)), none⟩] (some [4]))
 .ret)))

theorem m99 : fmatch Try.prog Try.f99 2 [.tmp 4] v99 = true := by kernel_rfl

/-- steening/knots.weave$1 -/
def v100 : VC :=
 (.seq
 (.ops false [
   ⟨some 6, .mov (.k (.bool false)), none⟩] (some []))
 (.seq
 (.ops false [
   ⟨some 6, .mov (.k (.bool true)), none⟩] (some [6]))
 .ret))

theorem m100 : fmatch Try.prog Try.f100 3 [.tmp 6] v100 = true := by kernel_rfl

/-- steening/knots.weave$2 -/
def v101 : VC :=
 (.seq
 (.ops false [
   ⟨some 4, .mov (.k (.bool false)), none⟩] (some []))
 (.seq
 (.ops false [
   ⟨some 4, .mov (.k (.bool true)), none⟩] (some [4]))
 .ret))

theorem m101 : fmatch Try.prog Try.f101 2 [.tmp 4] v101 = true := by kernel_rfl

/-- (steening/knots.loom).digits$1 -/
def v102 : VC :=
 (.seq
 (.ops false [
   ⟨some 7, .fld 0 (.t 1), none⟩,
   ⟨some 8, .fld 0 (.t 7), none⟩,
   ⟨some 9, .load 1 false (.t 8) [], none⟩,
   ⟨some 10, .mov (.k (.int 0)), none⟩] (some [0, 1, 2, 3, 9, 10]))
 (.block 0
  (.loop
   (.seq
   (.ops false [
     ⟨some 11, .bin .lss (.t 10) (.t 9), none⟩] (some [0, 1, 2, 3, 9, 10, 11]))
   (.seq
   (.cond (.t 11)
    .skip
    (.exit 0))
   (.seq
   (.block 1
    (.seq
    (.ops false [
      ⟨some 12, .mov (.t 10), none⟩,
      ⟨some 5, .mov (.t 12), none⟩] (some [0, 1, 2, 3, 5, 9, 10]))
    (.seq
    (.ops false [
      ⟨some 13, .load 6 true (.t 1) [], none⟩,
      ⟨some 14, .load 1 false (.t 2) [], none⟩,
      ⟨some 15, .load 1 false (.t 3) [], none⟩,
      ⟨some 16, .mov (.t 5), none⟩,
      ⟨some 17, .call 74 [.t 13, .t 14, .t 15, .t 16], none⟩,
      ⟨some 18, .call 65 [.t 17], none⟩,
      ⟨some 6, .mov (.t 18), none⟩] (some [0, 1, 2, 3, 5, 6, 9, 10]))
    (.seq
    (.ops false [
      ⟨some 19, .mov (.t 6), none⟩,
      ⟨some 20, .bin .gtr (.t 19) (.k (.int 0)), none⟩,
      ⟨some 21, .mov (.t 20), none⟩,
      ⟨some 22, .mov (.t 0), some (21, true)⟩,
      ⟨some 23, .mov (.t 5), some (21, true)⟩,
      ⟨some 24, .mov (.t 6), some (21, true)⟩,
      ⟨some 25, .yield (.t 22) [.t 23, .t 24], some (21, true)⟩,
      ⟨some 26, .not (.t 25), some (21, true)⟩,
      ⟨some 27, .pick (.t 21) (.t 26) (.k (.bool false)), none⟩] (some [0, 1, 2, 3, 9, 10, 27]))
    (.cond (.t 27)
     .ret
     .skip)))))
   (.ops false [
     ⟨some 28, .bin .add (.t 10) (.k (.int 1)), none⟩,
     ⟨some 10, .mov (.t 28), none⟩] (some [0, 1, 2, 3, 9, 10]))))))))

theorem m102 : fmatch Try.prog Try.f102 4 [] v102 = true := by kernel_rfl

/-- steening/steeningref11.Sum -/
def v103 : VC :=
 (.seq
 (.ops false [
   ⟨some 2, .mov (.k (.int 0)), none⟩] (some [0]))
 (.seq
 (.ops false [
   ⟨some 3, .mov (.k (.int 0)), none⟩] (some [0, 3]))
 (.seq
 (.seq
 (.ops false [
   ⟨some 4, .mov (.k (.int 0)), none⟩] (some [0, 3, 4]))
 (.block 0
  (.loop
   (.seq
   (.seq
   (.ops false [
     ⟨some 5, .mov (.t 4), none⟩,
     ⟨some 6, .mov (.t 0), none⟩,
     ⟨some 7, .len (.t 6), none⟩,
     ⟨some 8, .bin .lss (.t 5) (.t 7), none⟩] (some [0, 3, 4, 8]))
   (.cond (.t 8)
    .skip
    (.exit 0)))
   (.seq
   (.block 1
    (.ops false [
      ⟨some 11, .mov (.t 3), none⟩,
      ⟨some 12, .mov (.t 0), none⟩,
      ⟨some 13, .mov (.t 4), none⟩,
      ⟨some 14, .idx 1 (.t 12) (.t 13), none⟩,
      ⟨some 15, .load 1 false (.t 14) [], none⟩,
      ⟨some 16, .bin .add (.t 11) (.t 15), none⟩,
      ⟨some 3, .mov (.t 16), none⟩] (some [0, 3, 4])))
   (.ops false [
     ⟨some 9, .mov (.t 4), none⟩,
     ⟨some 10, .bin .add (.t 9) (.k (.int 1)), none⟩,
     ⟨some 4, .mov (.t 10), none⟩] (some [0, 3, 4])))))))
 (.seq
 (.ops false [
   ⟨some 17, .mov (.t 3), none⟩,
   ⟨some 2, .mov (.t 17), none⟩] (some [2]))
 .ret))))

theorem m103 : fmatch Try.prog Try.f103 1 [.tmp 2] v103 = true := by kernel_rfl

/-- steening/steeningref11.numbers -/
def v104 : VC :=
 (.seq
 (.ops false [
   ⟨some 3, .box 3 4 (.t 0), none⟩,
   ⟨some 6, .nils 6 1, none⟩] (some [1, 2, 3]))
 (.seq
 (.ops false [
   ⟨some 7, .nils 7 1, none⟩] (some [1, 2, 3, 7]))
 (.seq
 (.seq
 (.ops false [
   ⟨some 8, .mov (.k (.int 0)), none⟩] (some [1, 2, 3, 7, 8]))
 (.block 0
  (.loop
   (.seq
   (.seq
   (.ops false [
     ⟨some 9, .mov (.t 8), none⟩,
     ⟨some 10, .load 4 true (.t 3) [], none⟩,
     ⟨some 11, .call 41 [.t 10], none⟩,
     ⟨some 12, .bin .lss (.t 9) (.t 11), none⟩] (some [1, 2, 3, 7, 8, 12]))
   (.cond (.t 12)
    .skip
    (.exit 0)))
   (.seq
   (.block 1
    (.seq
    (.ops true [
      ⟨some 15, .mov (.t 2), none⟩,
      ⟨some 16, .mov (.t 15), none⟩,
      ⟨some 17, .load 4 true (.t 3) [], some (16, false)⟩,
      ⟨some 18, .mov (.t 1), some (16, false)⟩,
      ⟨some 19, .call 32 [.t 17, .t 18], some (16, false)⟩,
      ⟨some 20, .load 4 true (.t 3) [], some (16, false)⟩,
      ⟨some 21, .mov (.t 8), some (16, false)⟩,
      ⟨some 22, .call 69 [.t 20, .t 21], some (16, false)⟩,
      ⟨some 23, .call 99 [.t 19, .t 22], some (16, false)⟩,
      ⟨some 24, .pick (.t 16) (.k (.bool true)) (.t 23), none⟩] (some [1, 2, 3, 7, 8, 24]))
    (.cond (.t 24)
     (.ops false [
       ⟨some 25, .mov (.t 7), none⟩,
       ⟨some 26, .mov (.t 8), none⟩,
       ⟨some 27, .bslice 1 [.t 26], none⟩,
       ⟨some 28, .app 28 1 8 (.t 25) (.t 27), none⟩,
       ⟨some 7, .mov (.t 28), none⟩] (some [1, 2, 3, 7, 8]))
     .skip)))
   (.ops false [
     ⟨some 13, .mov (.t 8), none⟩,
     ⟨some 14, .bin .add (.t 13) (.k (.int 1)), none⟩,
     ⟨some 8, .mov (.t 14), none⟩] (some [1, 2, 3, 7, 8])))))))
 (.seq
 (.ops false [
   ⟨some 29, .mov (.t 7), none⟩,
   ⟨some 6, .mov (.t 29), none⟩] (some [6]))
 .ret))))

theorem m104 : fmatch Try.prog Try.f104 3 [.tmp 6] v104 = true := by kernel_rfl

/-- steening/knots.empty -/
def v105 : VC :=
 (.seq
 (.ops false [
   ⟨some 2, .alloc 2 (zeros [.int 0, .int 0] 51), none⟩] (some [0, 2]))
 (.seq
 (.seq
 (.ops false [
   ⟨some 4, .mov (.k (.int 0)), none⟩] (some [0, 2, 4]))
 (.block 0
  (.loop
   (.seq
   (.ops false [
     ⟨some 5, .bin .lss (.t 4) (.k (.int 51)), none⟩] (some [0, 2, 4, 5]))
   (.seq
   (.cond (.t 5)
    .skip
    (.exit 0))
   (.seq
   (.block 1
    (.seq
    (.ops false [
      ⟨some 6, .mov (.t 4), none⟩,
      ⟨some 3, .mov (.t 6), none⟩] (some [0, 2, 3, 4]))
    (.ops false [
      ⟨some 7, .mov (.t 3), none⟩,
      ⟨some 8, .idxA 51 2 (.t 2) (.t 7), none⟩,
      ⟨some 9, .fld 0 (.t 8), none⟩,
      ⟨none, .store 1 (.t 9) (.k (.int 1048576)) (some 2), none⟩] (some [0, 2, 4]))))
   (.ops false [
     ⟨some 10, .bin .add (.t 4) (.k (.int 1)), none⟩,
     ⟨some 4, .mov (.t 10), none⟩] (some [0, 2, 4]))))))))
 (.seq
 (.ops false [
   ⟨some 11, .mov (.t 0), none⟩,
   ⟨some 12, .build [.int 0, .int 0] [(0, 1, .k (.int 0)), (1, 1, .k (.int 1))], none⟩,
   ⟨some 13, .idxA 51 2 (.t 2) (.t 11), none⟩,
   ⟨none, .store 2 (.t 13) (.t 12) (some 2), none⟩] (some [2]))
 (.seq
 (.ops false [
   ⟨some 14, .load 102 true (.t 2) [], none⟩,
   ⟨none, .store 102 (.t 2) (.t 14) (some 2), none⟩] (some [2]))
 .ret))))

theorem m105 : fmatch Try.prog Try.f105 1 [.cell 2 111] v105 = true := by kernel_rfl

/-- (steening/knots.loom).more -/
def v106 : VC :=
 (.seq
 (.ops false [
   ⟨some 4, .box 4 6 (.t 0), none⟩,
   ⟨some 5, .box 5 102 (.t 1), none⟩,
   ⟨some 8, .alloc 8 (zeros [.int 0, .int 0] 51), none⟩] (some [2, 3, 4, 5, 8]))
 (.seq
 (.ops false [
   ⟨some 15, .call 105 [.k (.int 0)], none⟩,
   ⟨some 9, .alloc 9 (zeros [.int 0, .int 0] 51), none⟩,
   ⟨none, .store 102 (.t 9) (.t 15) (some 9), none⟩] (some [2, 3, 4, 5, 8, 9]))
 (.seq
 (.ops false [
   ⟨some 16, .build [.int 0, .int 0] [(0, 1, .k (.int 1048576)), (1, 1, .k (.int 0))], none⟩,
   ⟨some 17, .idxA 51 2 (.t 9) (.k (.int 0)), none⟩,
   ⟨none, .store 2 (.t 17) (.t 16) (some 9), none⟩] (some [2, 3, 4, 5, 8, 9]))
 (.seq
 (.seq
 (.ops false [
   ⟨some 18, .fld 0 (.t 4), none⟩,
   ⟨some 19, .fld 0 (.t 18), none⟩,
   ⟨some 20, .load 1 false (.t 19) [], none⟩,
   ⟨some 21, .mov (.k (.int 0)), none⟩] (some [2, 3, 4, 5, 8, 9, 20, 21]))
 (.block 0
  (.loop
   (.seq
   (.ops false [
     ⟨some 22, .bin .lss (.t 21) (.t 20), none⟩] (some [2, 3, 4, 5, 8, 9, 20, 21, 22]))
   (.seq
   (.cond (.t 22)
    .skip
    (.exit 0))
   (.seq
   (.block 1
    (.seq
    (.ops false [
      ⟨some 23, .mov (.t 21), none⟩,
      ⟨some 10, .mov (.t 23), none⟩] (some [2, 3, 4, 5, 8, 9, 10, 20, 21]))
    (.seq
    (.seq
    (.ops false [
      ⟨some 24, .fld 4 (.t 4), none⟩,
      ⟨some 25, .load 1 false (.t 24) [], none⟩,
      ⟨some 26, .mov (.t 2), none⟩,
      ⟨some 27, .mov (.t 3), none⟩,
      ⟨some 28, .mov (.t 10), none⟩,
      ⟨some 29, .callv (.t 25) [.t 26, .t 27, .t 28], none⟩,
      ⟨some 30, .not (.t 29), none⟩] (some [2, 3, 4, 5, 8, 9, 10, 20, 21, 30]))
    (.cond (.t 30)
     (.exit 1)
     .skip))
    (.seq
    (.ops false [
      ⟨some 31, .fld 0 (.t 4), none⟩,
      ⟨some 32, .fld 2 (.t 31), none⟩,
      ⟨some 33, .load 1 false (.t 32) [], none⟩,
      ⟨some 34, .mov (.t 2), none⟩,
      ⟨some 35, .idx 1 (.t 33) (.t 34), none⟩,
      ⟨some 36, .load 1 false (.t 35) [], none⟩,
      ⟨some 37, .mov (.t 3), none⟩,
      ⟨some 38, .idx 2 (.t 36) (.t 37), none⟩,
      ⟨some 39, .load 2 true (.t 38) [], none⟩,
      ⟨some 40, .mov (.t 10), none⟩,
      ⟨some 41, .call 73 [.t 39, .t 40], none⟩,
      ⟨some 11, .mov (.t 41), none⟩] (some [2, 3, 4, 5, 8, 9, 10, 11, 20, 21]))
    (.seq
    (.ops false [
      ⟨some 42, .mov (.t 10), none⟩,
      ⟨some 43, .bin .sub (.k (.int 51)) (.t 42), none⟩,
      ⟨some 44, .sliceA 51 2 true (.t 5) none (some (.t 43)), none⟩,
      ⟨some 45, .len (.t 44), none⟩,
      ⟨some 46, .mov (.k (.int 0)), none⟩] (some [2, 3, 4, 5, 8, 9, 10, 11, 20, 21, 44, 45, 46]))
    (.block 2
     (.loop
      (.seq
      (.ops false [
        ⟨some 47, .bin .lss (.t 46) (.t 45), none⟩] (some [2, 3, 4, 5, 8, 9, 10, 11, 20, 21, 44, 45, 46, 47]))
      (.seq
      (.cond (.t 47)
       .skip
       (.exit 2))
      (.seq
      (.block 3
       (.seq
       (.ops false [
         ⟨some 48, .mov (.t 46), none⟩,
         ⟨some 49, .idx 2 (.t 44) (.t 46), none⟩,
         ⟨some 50, .load 2 true (.t 49) [], none⟩,
         ⟨some 13, .alloc 13 [.int 0, .int 0], none⟩,
         ⟨some 12, .mov (.t 48), none⟩,
         ⟨none, .store 2 (.t 13) (.t 50) (some 13), none⟩] (some [2, 3, 4, 5, 8, 9, 10, 11, 12, 13, 20, 21, 44, 45, 46]))
       (.seq
       (.ops false [
         ⟨some 51, .mov (.t 12), none⟩,
         ⟨some 52, .mov (.t 10), none⟩,
         ⟨some 53, .bin .add (.t 51) (.t 52), none⟩,
         ⟨some 54, .idxA 51 2 (.t 9) (.t 53), none⟩,
         ⟨some 14, .mov (.t 54), none⟩] (some [2, 3, 4, 5, 8, 9, 10, 11, 13, 14, 20, 21, 44, 45, 46]))
       (.seq
       (.ops true [
         ⟨some 55, .mov (.t 14), none⟩,
         ⟨some 56, .mov (.t 14), none⟩,
         ⟨some 57, .nilck (.t 56), none⟩,
         ⟨some 58, .fld 0 (.t 57), none⟩,
         ⟨some 59, .load 1 false (.t 58) [], none⟩,
         ⟨some 60, .fld 0 (.t 13), none⟩,
         ⟨some 61, .load 1 false (.t 60) [], none⟩,
         ⟨some 62, .mov (.t 11), none⟩,
         ⟨some 63, .bin .add (.t 61) (.t 62), none⟩,
         ⟨some 64, .min (.t 59) (.t 63), none⟩,
         ⟨some 65, .nilck (.t 55), none⟩,
         ⟨some 66, .fld 0 (.t 65), none⟩,
         ⟨none, .store 1 (.t 66) (.t 64) none, none⟩] (some [2, 3, 4, 5, 8, 9, 10, 11, 13, 14, 20, 21, 44, 45, 46]))
       (.seq
       (.ops false [
         ⟨some 67, .mov (.t 11), none⟩,
         ⟨some 68, .bin .eql (.t 67) (.k (.int 0)), none⟩] (some [2, 3, 4, 5, 8, 9, 10, 11, 13, 14, 20, 21, 44, 45, 46, 68]))
       (.cond (.t 68)
        (.ops true [
          ⟨some 69, .mov (.t 14), none⟩,
          ⟨some 70, .nilck (.t 69), none⟩,
          ⟨some 71, .fld 1 (.t 70), none⟩,
          ⟨some 72, .load 1 false (.t 71) [], none⟩,
          ⟨some 73, .fld 1 (.t 13), none⟩,
          ⟨some 74, .load 1 false (.t 73) [], none⟩,
          ⟨some 75, .bin .add (.t 72) (.t 74), none⟩,
          ⟨some 76, .nilck (.t 69), none⟩,
          ⟨some 77, .fld 1 (.t 76), none⟩,
          ⟨none, .store 1 (.t 77) (.t 75) none, none⟩] (some [2, 3, 4, 5, 8, 9, 10, 11, 20, 21, 44, 45, 46]))
        .skip))))))
      (.ops false [
        ⟨some 78, .bin .add (.t 46) (.k (.int 1)), none⟩,
        ⟨some 46, .mov (.t 78), none⟩] (some [2, 3, 4, 5, 8, 9, 10, 11, 20, 21, 44, 45, 46]))))))))))))
   (.ops false [
     ⟨some 79, .bin .add (.t 21) (.k (.int 1)), none⟩,
     ⟨some 21, .mov (.t 79), none⟩] (some [2, 3, 4, 5, 8, 9, 20, 21]))))))))
 (.seq
 (.ops false [
   ⟨some 80, .load 102 true (.t 9) [], none⟩,
   ⟨none, .store 102 (.t 8) (.t 80) (some 8), none⟩] (some [8]))
 .ret)))))

theorem m106 : fmatch Try.prog Try.f106 4 [.cell 8 111] v106 = true := by kernel_rfl

/-- steening/steeningref11.cost -/
def v107 : VC :=
 (.seq
 (.ops false [
   ⟨some 2, .box 2 4 (.t 0), none⟩,
   ⟨some 4, .mov (.k (.int 0)), none⟩] (some [1, 2]))
 (.seq
 (.ops false [
   ⟨some 5, .mov (.k (.int 0)), none⟩] (some [1, 2, 5]))
 (.seq
 (.seq
 (.ops false [
   ⟨some 6, .mov (.k (.int 0)), none⟩] (some [1, 2, 5, 6]))
 (.block 0
  (.loop
   (.seq
   (.seq
   (.ops false [
     ⟨some 7, .mov (.t 6), none⟩,
     ⟨some 8, .mov (.t 1), none⟩,
     ⟨some 9, .len (.t 8), none⟩,
     ⟨some 10, .bin .lss (.t 7) (.t 9), none⟩] (some [1, 2, 5, 6, 10]))
   (.cond (.t 10)
    .skip
    (.exit 0)))
   (.seq
   (.block 1
    (.ops true [
      ⟨some 13, .mov (.t 5), none⟩,
      ⟨some 14, .load 4 true (.t 2) [], none⟩,
      ⟨some 15, .mov (.t 6), none⟩,
      ⟨some 16, .call 32 [.t 14, .t 15], none⟩,
      ⟨some 17, .load 4 true (.t 2) [], none⟩,
      ⟨some 18, .mov (.t 1), none⟩,
      ⟨some 19, .mov (.t 6), none⟩,
      ⟨some 20, .idx 1 (.t 18) (.t 19), none⟩,
      ⟨some 21, .load 1 false (.t 20) [], none⟩,
      ⟨some 22, .call 69 [.t 17, .t 21], none⟩,
      ⟨some 23, .call 75 [.t 16, .t 22], none⟩,
      ⟨some 24, .bin .add (.t 13) (.t 23), none⟩,
      ⟨some 5, .mov (.t 24), none⟩] (some [1, 2, 5, 6])))
   (.ops false [
     ⟨some 11, .mov (.t 6), none⟩,
     ⟨some 12, .bin .add (.t 11) (.k (.int 1)), none⟩,
     ⟨some 6, .mov (.t 12), none⟩] (some [1, 2, 5, 6])))))))
 (.seq
 (.ops false [
   ⟨some 25, .mov (.t 5), none⟩,
   ⟨some 4, .mov (.t 25), none⟩] (some [4]))
 .ret))))

theorem m107 : fmatch Try.prog Try.f107 2 [.tmp 4] v107 = true := by kernel_rfl

/-- (steening/knots.loom).only$1 -/
def v108 : VC :=
 (.seq
 (.ops false [
   ⟨some 10, .mov (.k (.bool false)), none⟩] (some [0, 1, 2, 3, 4, 5, 6]))
 (.seq
 (.ops false [
   ⟨some 11, .load 1 false (.t 3) [], none⟩,
   ⟨some 12, .mov (.t 0), none⟩,
   ⟨some 13, .mov (.t 1), none⟩,
   ⟨some 14, .mov (.t 2), none⟩,
   ⟨some 15, .callv (.t 11) [.t 12, .t 13, .t 14], none⟩,
   ⟨some 16, .mov (.t 15), none⟩,
   ⟨some 17, .mov (.t 0), some (16, true)⟩,
   ⟨some 18, .load 1 false (.t 4) [], some (16, true)⟩,
   ⟨some 19, .bin .neq (.t 17) (.t 18), some (16, true)⟩,
   ⟨some 20, .mov (.t 19), some (16, true)⟩,
   ⟨some 21, .mov (.t 1), some (20, false)⟩,
   ⟨some 22, .load 1 false (.t 5) [], some (20, false)⟩,
   ⟨some 23, .bin .neq (.t 21) (.t 22), some (20, false)⟩,
   ⟨some 24, .pick (.t 20) (.k (.bool true)) (.t 23), some (16, true)⟩,
   ⟨some 25, .mov (.t 24), some (16, true)⟩,
   ⟨some 26, .mov (.t 2), some (25, false)⟩,
   ⟨some 27, .load 1 false (.t 6) [], some (25, false)⟩,
   ⟨some 28, .bin .eql (.t 26) (.t 27), some (25, false)⟩,
   ⟨some 29, .pick (.t 25) (.k (.bool true)) (.t 28), some (16, true)⟩,
   ⟨some 30, .pick (.t 16) (.t 29) (.k (.bool false)), none⟩,
   ⟨some 10, .mov (.t 30), none⟩] (some [10]))
 .ret))

theorem m108 : fmatch Try.prog Try.f108 7 [.tmp 10] v108 = true := by kernel_rfl

/-- slices.Backward[[]int,int]$1 -/
def v109 : VC :=
 (.seq
 (.ops false [
   ⟨some 4, .load 1 false (.t 1) [], none⟩,
   ⟨some 5, .len (.t 4), none⟩,
   ⟨some 6, .bin .sub (.t 5) (.k (.int 1)), none⟩,
   ⟨some 3, .mov (.t 6), none⟩] (some [0, 1, 3]))
 (.block 0
  (.loop
   (.seq
   (.seq
   (.ops false [
     ⟨some 7, .mov (.t 3), none⟩,
     ⟨some 8, .bin .geq (.t 7) (.k (.int 0)), none⟩] (some [0, 1, 3, 8]))
   (.cond (.t 8)
    .skip
    (.exit 0)))
   (.seq
   (.block 1
    (.seq
    (.ops false [
      ⟨some 11, .mov (.t 0), none⟩,
      ⟨some 12, .mov (.t 3), none⟩,
      ⟨some 13, .load 1 false (.t 1) [], none⟩,
      ⟨some 14, .mov (.t 3), none⟩,
      ⟨some 15, .idx 1 (.t 13) (.t 14), none⟩,
      ⟨some 16, .load 1 false (.t 15) [], none⟩,
      ⟨some 17, .yield (.t 11) [.t 12, .t 16], none⟩,
      ⟨some 18, .not (.t 17), none⟩] (some [0, 1, 3, 18]))
    (.cond (.t 18)
     .ret
     .skip)))
   (.ops false [
     ⟨some 9, .mov (.t 3), none⟩,
     ⟨some 10, .bin .sub (.t 9) (.k (.int 1)), none⟩,
     ⟨some 3, .mov (.t 10), none⟩] (some [0, 1, 3])))))))

theorem m109 : fmatch Try.prog Try.f109 2 [] v109 = true := by kernel_rfl

/-- slices.ContainsFunc[[]int,int] -/
def v110 : VC :=
 (.seq
 (.ops false [
   ⟨some 4, .mov (.k (.bool false)), none⟩] (some [0, 1]))
 (.seq
 (.ops false [
   ⟨some 5, .mov (.t 0), none⟩,
   ⟨some 6, .mov (.t 1), none⟩,
   ⟨some 7, .call 115 [.t 5, .t 6], none⟩,
   ⟨some 8, .bin .geq (.t 7) (.k (.int 0)), none⟩,
   ⟨some 4, .mov (.t 8), none⟩] (some [4]))
 .ret))

theorem m110 : fmatch Try.prog Try.f110 2 [.tmp 4] v110 = true := by kernel_rfl

/-- steening/knots.areDigits$1 -/
def v111 : VC :=
 (.seq
 (.ops false [
   ⟨some 3, .mov (.k (.bool false)), none⟩] (some [0, 1]))
 (.seq
 (.ops false [
   ⟨some 4, .mov (.t 0), none⟩,
   ⟨some 5, .fld 0 (.t 1), none⟩,
   ⟨some 6, .load 1 false (.t 5) [], none⟩,
   ⟨some 7, .bin .sub (.t 6) (.k (.int 1)), none⟩,
   ⟨some 8, .call 86 [.t 4, .k (.int 0), .t 7], none⟩,
   ⟨some 9, .not (.t 8), none⟩,
   ⟨some 3, .mov (.t 9), none⟩] (some [3]))
 .ret))

theorem m111 : fmatch Try.prog Try.f111 2 [.tmp 3] v111 = true := by kernel_rfl

/-- steening/knots.isCord$1 -/
def v112 : VC :=
 (.seq
 (.ops false [
   ⟨some 2, .box 2 2 (.t 0), none⟩,
   ⟨some 3, .mov (.k (.bool false)), none⟩] (some [1, 2]))
 (.seq
 (.ops false [
   ⟨some 4, .fld 0 (.t 2), none⟩,
   ⟨some 5, .load 1 false (.t 4) [], none⟩,
   ⟨some 6, .fld 1 (.t 2), none⟩,
   ⟨some 7, .load 1 false (.t 6) [], none⟩,
   ⟨some 8, .call 86 [.t 5, .k (.int 0), .t 7], none⟩,
   ⟨some 9, .not (.t 8), none⟩,
   ⟨some 10, .mov (.t 9), none⟩,
   ⟨some 11, .fld 1 (.t 2), some (10, false)⟩,
   ⟨some 12, .load 1 false (.t 11) [], some (10, false)⟩,
   ⟨some 13, .fld 0 (.t 1), some (10, false)⟩,
   ⟨some 14, .load 1 false (.t 13) [], some (10, false)⟩,
   ⟨some 15, .bin .geq (.t 12) (.t 14), some (10, false)⟩,
   ⟨some 16, .pick (.t 10) (.k (.bool true)) (.t 15), none⟩,
   ⟨some 3, .mov (.t 16), none⟩] (some [3]))
 .ret))

theorem m112 : fmatch Try.prog Try.f112 2 [.tmp 3] v112 = true := by kernel_rfl

/-- slices.ContainsFunc[[]steening/api.Span,steening/api.Span] -/
def v113 : VC :=
 (.seq
 (.ops false [
   ⟨some 4, .mov (.k (.bool false)), none⟩] (some [0, 1]))
 (.seq
 (.ops false [
   ⟨some 5, .mov (.t 0), none⟩,
   ⟨some 6, .mov (.t 1), none⟩,
   ⟨some 7, .call 116 [.t 5, .t 6], none⟩,
   ⟨some 8, .bin .geq (.t 7) (.k (.int 0)), none⟩,
   ⟨some 4, .mov (.t 8), none⟩] (some [4]))
 .ret))

theorem m113 : fmatch Try.prog Try.f113 2 [.tmp 4] v113 = true := by kernel_rfl

/-- slices.IndexFunc[[][]steening/api.Span,[]steening/api.Span] -/
def v114 : VC :=
 (.seq
 (.ops false [
   ⟨some 4, .mov (.k (.int 0)), none⟩] (some [0, 1]))
 (.seq
 (.seq
 (.ops false [
   ⟨some 6, .mov (.t 0), none⟩,
   ⟨some 7, .len (.t 6), none⟩,
   ⟨some 8, .mov (.k (.int 0)), none⟩] (some [0, 1, 7, 8]))
 (.block 0
  (.loop
   (.seq
   (.ops false [
     ⟨some 9, .bin .lss (.t 8) (.t 7), none⟩] (some [0, 1, 7, 8, 9]))
   (.seq
   (.cond (.t 9)
    .skip
    (.exit 0))
   (.seq
   (.block 1
    (.seq
    (.ops false [
      ⟨some 10, .mov (.t 8), none⟩,
      ⟨some 5, .mov (.t 10), none⟩] (some [0, 1, 5, 7, 8]))
    (.seq
    (.ops false [
      ⟨some 11, .mov (.t 1), none⟩,
      ⟨some 12, .mov (.t 0), none⟩,
      ⟨some 13, .mov (.t 5), none⟩,
      ⟨some 14, .idx 1 (.t 12) (.t 13), none⟩,
      ⟨some 15, .load 1 false (.t 14) [], none⟩,
      ⟨some 16, .callv (.t 11) [.t 15], none⟩] (some [0, 1, 5, 7, 8, 16]))
    (.cond (.t 16)
     (.seq
     (.ops false [
       ⟨some 17, .mov (.t 5), none⟩,
       ⟨some 4, .mov (.t 17), none⟩] (some [4]))
     .ret)
     .skip))))
   (.ops false [
     ⟨some 18, .bin .add (.t 8) (.k (.int 1)), none⟩,
     ⟨some 8, .mov (.t 18), none⟩] (some [0, 1, 7, 8]))))))))
 (.seq
 (.ops false [
   ⟨some 4, .mov (.k (.int (-1))), none⟩] (some [4]))
 .ret)))

theorem m114 : fmatch Try.prog Try.f114 2 [.tmp 4] v114 = true := by kernel_rfl

/-- slices.IndexFunc[[]int,int] -/
def v115 : VC :=
 (.seq
 (.ops false [
   ⟨some 4, .mov (.k (.int 0)), none⟩] (some [0, 1]))
 (.seq
 (.seq
 (.ops false [
   ⟨some 6, .mov (.t 0), none⟩,
   ⟨some 7, .len (.t 6), none⟩,
   ⟨some 8, .mov (.k (.int 0)), none⟩] (some [0, 1, 7, 8]))
 (.block 0
  (.loop
   (.seq
   (.ops false [
     ⟨some 9, .bin .lss (.t 8) (.t 7), none⟩] (some [0, 1, 7, 8, 9]))
   (.seq
   (.cond (.t 9)
    .skip
    (.exit 0))
   (.seq
   (.block 1
    (.seq
    (.ops false [
      ⟨some 10, .mov (.t 8), none⟩,
      ⟨some 5, .mov (.t 10), none⟩] (some [0, 1, 5, 7, 8]))
    (.seq
    (.ops false [
      ⟨some 11, .mov (.t 1), none⟩,
      ⟨some 12, .mov (.t 0), none⟩,
      ⟨some 13, .mov (.t 5), none⟩,
      ⟨some 14, .idx 1 (.t 12) (.t 13), none⟩,
      ⟨some 15, .load 1 false (.t 14) [], none⟩,
      ⟨some 16, .callv (.t 11) [.t 15], none⟩] (some [0, 1, 5, 7, 8, 16]))
    (.cond (.t 16)
     (.seq
     (.ops false [
       ⟨some 17, .mov (.t 5), none⟩,
       ⟨some 4, .mov (.t 17), none⟩] (some [4]))
     .ret)
     .skip))))
   (.ops false [
     ⟨some 18, .bin .add (.t 8) (.k (.int 1)), none⟩,
     ⟨some 8, .mov (.t 18), none⟩] (some [0, 1, 7, 8]))))))))
 (.seq
 (.ops false [
   ⟨some 4, .mov (.k (.int (-1))), none⟩] (some [4]))
 .ret)))

theorem m115 : fmatch Try.prog Try.f115 2 [.tmp 4] v115 = true := by kernel_rfl

/-- slices.IndexFunc[[]steening/api.Span,steening/api.Span] -/
def v116 : VC :=
 (.seq
 (.ops false [
   ⟨some 4, .mov (.k (.int 0)), none⟩] (some [0, 1]))
 (.seq
 (.seq
 (.ops false [
   ⟨some 6, .mov (.t 0), none⟩,
   ⟨some 7, .len (.t 6), none⟩,
   ⟨some 8, .mov (.k (.int 0)), none⟩] (some [0, 1, 7, 8]))
 (.block 0
  (.loop
   (.seq
   (.ops false [
     ⟨some 9, .bin .lss (.t 8) (.t 7), none⟩] (some [0, 1, 7, 8, 9]))
   (.seq
   (.cond (.t 9)
    .skip
    (.exit 0))
   (.seq
   (.block 1
    (.seq
    (.ops false [
      ⟨some 10, .mov (.t 8), none⟩,
      ⟨some 5, .mov (.t 10), none⟩] (some [0, 1, 5, 7, 8]))
    (.seq
    (.ops false [
      ⟨some 11, .mov (.t 1), none⟩,
      ⟨some 12, .mov (.t 0), none⟩,
      ⟨some 13, .mov (.t 5), none⟩,
      ⟨some 14, .idx 2 (.t 12) (.t 13), none⟩,
      ⟨some 15, .load 2 true (.t 14) [], none⟩,
      ⟨some 16, .callv (.t 11) [.t 15], none⟩] (some [0, 1, 5, 7, 8, 16]))
    (.cond (.t 16)
     (.seq
     (.ops false [
       ⟨some 17, .mov (.t 5), none⟩,
       ⟨some 4, .mov (.t 17), none⟩] (some [4]))
     .ret)
     .skip))))
   (.ops false [
     ⟨some 18, .bin .add (.t 8) (.k (.int 1)), none⟩,
     ⟨some 8, .mov (.t 18), none⟩] (some [0, 1, 7, 8]))))))))
 (.seq
 (.ops false [
   ⟨some 4, .mov (.k (.int (-1))), none⟩] (some [4]))
 .ret)))

theorem m116 : fmatch Try.prog Try.f116 2 [.tmp 4] v116 = true := by kernel_rfl

end Go.Proofs.Ytkkiipjfbebipaa

/- Contracts of small functions. -/
set_option linter.unusedSimpArgs false
set_option linter.unusedVariables false
set_option linter.unnecessarySimpa false
namespace Go.Proofs.Ytkkiipjfbebipaa
open Go Go.V

theorem hmix : Try.prog.follows .mixedOrders = true := by kernel_rfl

abbrev IS (l : List Int) : AV := .sl 1 (l.map .int) .sh

theorem c27 (a b : List Int) (ha : a.length < 4294967296) : Ctr Try.prog 27 [IS a, IS b] (.bool (decide (a = b))) := by
  refine ctr_of_wp hmix Try.func27 m27 rfl ?_
  unfold v27 IS
  simp (config := { failIfUnchanged := false }) (disch := first | omega | (simp <;> omega) | fail) only [go_sem, ↓reduceIte, reduceCtorEq, Nat.reduceEqDiff, Nat.reduceAdd, Nat.reduceMul, Nat.reduceSub, Nat.reduceLeDiff, Int.reduceEq, Int.reduceLT, Int.reduceLE, Int.reduceAdd, Int.reduceSub, Int.reduceMul, Int.reduceNeg, Int.reduceToNat]
  refine wcond_dec (fun h => ?_) (fun h => ?_)
  · simp (config := { failIfUnchanged := false }) (disch := first | omega | (simp <;> omega) | fail) only [go_sem, ↓reduceIte, reduceCtorEq, Nat.reduceEqDiff, Nat.reduceAdd, Nat.reduceMul, Nat.reduceSub, Nat.reduceLeDiff, Int.reduceEq, Int.reduceLT, Int.reduceLE, Int.reduceAdd, Int.reduceSub, Int.reduceMul, Int.reduceNeg, Int.reduceToNat]
    have : a ≠ b := fun e => by subst e; simp at h
    simp [this]
  · simp (config := { failIfUnchanged := false }) (disch := first | omega | (simp <;> omega) | fail) only [go_sem, ↓reduceIte, reduceCtorEq, Nat.reduceEqDiff, Nat.reduceAdd, Nat.reduceMul, Nat.reduceSub, Nat.reduceLeDiff, Int.reduceEq, Int.reduceLT, Int.reduceLE, Int.reduceAdd, Int.reduceSub, Int.reduceMul, Int.reduceNeg, Int.reduceToNat]
    refine wp_loop' Nat (fun i => ⟨[(0, IS a), (1, IS b), (5, .int i)], [], [], none⟩) (fun i => i ≤ a.length ∧ a.take i = b.take i) (fun i => a.length - i) 0 (by simp) (by unfold IS; simp (config := { failIfUnchanged := false }) (disch := first | omega | (simp <;> omega) | fail) only [go_sem, ↓reduceIte, reduceCtorEq, Nat.reduceEqDiff, Nat.reduceAdd, Nat.reduceMul, Nat.reduceSub, Nat.reduceLeDiff, Int.reduceEq, Int.reduceLT, Int.reduceLE, Int.reduceAdd, Int.reduceSub, Int.reduceMul, Int.reduceNeg, Int.reduceToNat]; rfl) ?_
    rintro i ⟨hi, hpre⟩
    unfold IS
    simp (config := { failIfUnchanged := false }) (disch := first | omega | (simp <;> omega) | fail) only [go_sem, ↓reduceIte, reduceCtorEq, Nat.reduceEqDiff, Nat.reduceAdd, Nat.reduceMul, Nat.reduceSub, Nat.reduceLeDiff, Int.reduceEq, Int.reduceLT, Int.reduceLE, Int.reduceAdd, Int.reduceSub, Int.reduceMul, Int.reduceNeg, Int.reduceToNat]
    have hl : a.length = b.length := by omega
    refine wcond_dec (fun h => ?_) (fun h => ?_)
    · simp (config := { failIfUnchanged := false }) (disch := first | omega | (simp <;> omega) | fail) only [go_sem, ↓reduceIte, reduceCtorEq, Nat.reduceEqDiff, Nat.reduceAdd, Nat.reduceMul, Nat.reduceSub, Nat.reduceLeDiff, Int.reduceEq, Int.reduceLT, Int.reduceLE, Int.reduceAdd, Int.reduceSub, Int.reduceMul, Int.reduceNeg, Int.reduceToNat]
      have e1 : a[i]? = some a[i] := List.getElem?_eq_getElem (by omega)
      have e2 : b[i]? = some b[i] := List.getElem?_eq_getElem (by omega)
      rw [e1, e2]
      simp (config := { failIfUnchanged := false }) (disch := first | omega | (simp <;> omega) | fail) only [go_sem, ↓reduceIte, reduceCtorEq, Nat.reduceEqDiff, Nat.reduceAdd, Nat.reduceMul, Nat.reduceSub, Nat.reduceLeDiff, Int.reduceEq, Int.reduceLT, Int.reduceLE, Int.reduceAdd, Int.reduceSub, Int.reduceMul, Int.reduceNeg, Int.reduceToNat]
      refine wcond_dec (fun h => ?_) (fun h => ?_)
      · simp (config := { failIfUnchanged := false }) (disch := first | omega | (simp <;> omega) | fail) only [go_sem, ↓reduceIte, reduceCtorEq, Nat.reduceEqDiff, Nat.reduceAdd, Nat.reduceMul, Nat.reduceSub, Nat.reduceLeDiff, Int.reduceEq, Int.reduceLT, Int.reduceLE, Int.reduceAdd, Int.reduceSub, Int.reduceMul, Int.reduceNeg, Int.reduceToNat]
        have : a ≠ b := fun e => by subst e; simp at h
        simp [this]
      · simp (config := { failIfUnchanged := false }) (disch := first | omega | (simp <;> omega) | fail) only [go_sem, ↓reduceIte, reduceCtorEq, Nat.reduceEqDiff, Nat.reduceAdd, Nat.reduceMul, Nat.reduceSub, Nat.reduceLeDiff, Int.reduceEq, Int.reduceLT, Int.reduceLE, Int.reduceAdd, Int.reduceSub, Int.reduceMul, Int.reduceNeg, Int.reduceToNat]
        refine ⟨i + 1, ⟨by omega, ?_⟩, by dsimp only; omega, ?_⟩
        · rw [List.take_add_one, List.take_add_one, hpre, e1, e2]
          simp only [Decidable.not_not] at h
          rw [h]
        · simp (config := { failIfUnchanged := false }) (disch := first | omega | (simp <;> omega) | fail) only [go_sem, ↓reduceIte, reduceCtorEq, Nat.reduceEqDiff, Nat.reduceAdd, Nat.reduceMul, Nat.reduceSub, Nat.reduceLeDiff, Int.reduceEq, Int.reduceLT, Int.reduceLE, Int.reduceAdd, Int.reduceSub, Int.reduceMul, Int.reduceNeg, Int.reduceToNat]
          simp
    · simp (config := { failIfUnchanged := false }) (disch := first | omega | (simp <;> omega) | fail) only [go_sem, ↓reduceIte, reduceCtorEq, Nat.reduceEqDiff, Nat.reduceAdd, Nat.reduceMul, Nat.reduceSub, Nat.reduceLeDiff, Int.reduceEq, Int.reduceLT, Int.reduceLE, Int.reduceAdd, Int.reduceSub, Int.reduceMul, Int.reduceNeg, Int.reduceToNat]
      have e : i = a.length := by omega
      have : a = b := by
        rw [e, List.take_length, hl, List.take_length] at hpre
        exact hpre
      simp [this]

end Go.Proofs.Ytkkiipjfbebipaa

/- Contracts of the functions without loops that ask for little. -/
set_option linter.unusedSimpArgs false
set_option linter.unusedVariables false
set_option linter.unnecessarySimpa false
namespace Go.Proofs.Ytkkiipjfbebipaa
open Go Go.V

structure Sp where
  lo : Int
  hi : Int
  deriving Inhabited, DecidableEq

structure Bk where
  base : Int
  places : Int
  cords : List (List Sp)
  top : List Sp
  deriving Inhabited, DecidableEq

abbrev SP (s : Sp) : AV := .agg [.int s.lo, .int s.hi]
abbrev SS (l : List Sp) : AV := .sl 2 (l.map SP) .sh
abbrev KB (b : Bk) : AV := .agg [.int b.base, .int b.places, .sl 1 (b.cords.map SS) .sh, SS b.top]

def within (n lo hi : Int) : Bool := decide (lo ≤ n ∧ n ≤ hi)

theorem c86 (n lo hi : Int) : Ctr Try.prog 86 [.int n, .int lo, .int hi] (.bool (within n lo hi)) := by
  refine ctr_of_wp hmix Try.func86 m86 rfl ?_
  unfold v86
  simp (config := { failIfUnchanged := false }) (disch := first | omega | (simp <;> omega) | fail) only [go_sem, ↓reduceIte, reduceCtorEq, Nat.reduceEqDiff, Nat.reduceAdd, Nat.reduceMul, Nat.reduceSub, Nat.reduceLeDiff, Int.reduceEq, Int.reduceLT, Int.reduceLE, Int.reduceAdd, Int.reduceSub, Int.reduceMul, Int.reduceNeg, Int.reduceToNat]
  refine WGd_bool (fun h => ?_) (fun h => ?_)
  · simp (config := { failIfUnchanged := false }) (disch := first | omega | (simp <;> omega) | fail) only [go_sem, ↓reduceIte, reduceCtorEq, Nat.reduceEqDiff, Nat.reduceAdd, Nat.reduceMul, Nat.reduceSub, Nat.reduceLeDiff, Int.reduceEq, Int.reduceLT, Int.reduceLE, Int.reduceAdd, Int.reduceSub, Int.reduceMul, Int.reduceNeg, Int.reduceToNat, h]
    simp only [decide_eq_true_eq] at h
    simp [within, h]
  · simp (config := { failIfUnchanged := false }) (disch := first | omega | (simp <;> omega) | fail) only [go_sem, ↓reduceIte, reduceCtorEq, Nat.reduceEqDiff, Nat.reduceAdd, Nat.reduceMul, Nat.reduceSub, Nat.reduceLeDiff, Int.reduceEq, Int.reduceLT, Int.reduceLE, Int.reduceAdd, Int.reduceSub, Int.reduceMul, Int.reduceNeg, Int.reduceToNat, h]
    simp only [Bool.not_true, decide_eq_false_iff_not] at h
    simp [within, h]

theorem c78 (b : Bk) (n : Int) : Ctr Try.prog 78 [KB b, .int n] (.bool (within n 0 b.cords.length)) := by
  refine ctr_of_wp hmix Try.func78 m78 rfl ?_
  unfold v78
  simp (config := { failIfUnchanged := false }) (disch := first | omega | (simp <;> omega) | fail) only [go_sem, ↓reduceIte, reduceCtorEq, Nat.reduceEqDiff, Nat.reduceAdd, Nat.reduceMul, Nat.reduceSub, Nat.reduceLeDiff, Int.reduceEq, Int.reduceLT, Int.reduceLE, Int.reduceAdd, Int.reduceSub, Int.reduceMul, Int.reduceNeg, Int.reduceToNat]
  refine wcall (c86 _ _ _) ?_
  simp (config := { failIfUnchanged := false }) (disch := first | omega | (simp <;> omega) | fail) only [go_sem, ↓reduceIte, reduceCtorEq, Nat.reduceEqDiff, Nat.reduceAdd, Nat.reduceMul, Nat.reduceSub, Nat.reduceLeDiff, Int.reduceEq, Int.reduceLT, Int.reduceLE, Int.reduceAdd, Int.reduceSub, Int.reduceMul, Int.reduceNeg, Int.reduceToNat]

theorem c84 (b : Bk) (n : Int) : Ctr Try.prog 84 [KB b, .int n] (.bool (within n 0 (w64 (b.places - 1)))) := by
  refine ctr_of_wp hmix Try.func84 m84 rfl ?_
  unfold v84
  simp (config := { failIfUnchanged := false }) (disch := first | omega | (simp <;> omega) | fail) only [go_sem, ↓reduceIte, reduceCtorEq, Nat.reduceEqDiff, Nat.reduceAdd, Nat.reduceMul, Nat.reduceSub, Nat.reduceLeDiff, Int.reduceEq, Int.reduceLT, Int.reduceLE, Int.reduceAdd, Int.reduceSub, Int.reduceMul, Int.reduceNeg, Int.reduceToNat]
  refine wcall (c86 _ _ _) ?_
  simp (config := { failIfUnchanged := false }) (disch := first | omega | (simp <;> omega) | fail) only [go_sem, ↓reduceIte, reduceCtorEq, Nat.reduceEqDiff, Nat.reduceAdd, Nat.reduceMul, Nat.reduceSub, Nat.reduceLeDiff, Int.reduceEq, Int.reduceLT, Int.reduceLE, Int.reduceAdd, Int.reduceSub, Int.reduceMul, Int.reduceNeg, Int.reduceToNat]

theorem c73 (s : Sp) (d : Int) (h1 : 0 ≤ s.lo ∧ s.lo ≤ 1000) (h2 : 0 ≤ s.hi ∧ s.hi ≤ 1000) (h3 : 0 ≤ d ∧ d ≤ 1000) : Ctr Try.prog 73 [SP s, .int d] (.int (max (max 0 (s.lo - d)) (d - s.hi))) := by
  refine ctr_of_wp hmix Try.func73 m73 rfl ?_
  unfold v73
  simp (config := { failIfUnchanged := false }) (disch := first | omega | (simp <;> omega) | fail) only [go_sem, ↓reduceIte, reduceCtorEq, Nat.reduceEqDiff, Nat.reduceAdd, Nat.reduceMul, Nat.reduceSub, Nat.reduceLeDiff, Int.reduceEq, Int.reduceLT, Int.reduceLE, Int.reduceAdd, Int.reduceSub, Int.reduceMul, Int.reduceNeg, Int.reduceToNat]

end Go.Proofs.Ytkkiipjfbebipaa

/- Contracts of Check and of what it calls. -/
set_option linter.unusedSimpArgs false
set_option linter.unusedVariables false
set_option linter.unnecessarySimpa false
namespace Go.Proofs.Ytkkiipjfbebipaa
open Go Go.V

/-- The first place at which p holds, or -1. -/
def idxF {α : Type} (p : α → Bool) (l : List α) : Int := if l.any p then l.findIdx p else -1

theorem idxF_hit {α : Type} [Inhabited α] {p : α → Bool} {l : List α} {i : Nat} (hi : i < l.length) (hpre : ∀ x ∈ l.take i, p x = false) (h : p (l[i]?.getD default) = true) : idxF p l = i := by
  have e : l[i]?.getD default = l[i] := by simp [hi]
  rw [e] at h
  have hany : l.any p = true := List.any_eq_true.2 ⟨l[i], List.getElem_mem hi, h⟩
  have : l.findIdx p = i := by
    rw [List.findIdx_eq hi]
    refine ⟨h, fun j hj => ?_⟩
    refine hpre _ ?_
    have hj2 : j < l.length := by omega
    have : (l.take i)[j]'(by simp; omega) = l[j] := List.getElem_take
    rw [← this]
    exact List.getElem_mem _
  simp [idxF, hany, this]

theorem idxF_miss {α : Type} {p : α → Bool} {l : List α} (hpre : ∀ x ∈ l, p x = false) : idxF p l = -1 := by
  have : l.any p = false := List.any_eq_false.2 fun x hx => by simp [hpre x hx]
  simp [idxF, this]

theorem idxF_geq {α : Type} {p : α → Bool} {l : List α} : decide ((0 : Int) ≤ idxF p l) = l.any p := by
  unfold idxF
  cases l.any p <;> simp

theorem take_succ_all {α : Type} [Inhabited α] {p : α → Bool} {l : List α} {i : Nat} (hi : i < l.length) (hpre : ∀ x ∈ l.take i, p x = false) (h : p (l[i]?.getD default) = false) : ∀ x ∈ l.take (i + 1), p x = false := by
  intro x hx
  rw [List.take_add_one] at hx
  rcases List.mem_append.1 hx with hx | hx
  · exact hpre x hx
  · have e : l[i]? = some l[i] := List.getElem?_eq_getElem hi
    rw [e] at hx h
    simp at hx h
    rw [hx]; exact h

theorem mem_getD {α : Type} [Inhabited α] {l : List α} {i : Nat} (hi : i < l.length) : l[i]?.getD default ∈ l := by
  simp [hi]

theorem c116 (l : List Sp) (g : Nat) (caps : List AV) (p : Sp → Bool) (hp : ∀ x ∈ l, Ctr Try.prog g ([SP x] ++ caps) (.bool (p x))) (hl : l.length < 4294967296) :
    Ctr Try.prog 116 [SS l, .clo g [] caps] (.int (idxF p l)) := by
  refine ctr_of_wp hmix Try.func116 m116 rfl ?_
  unfold v116
  simp (config := { failIfUnchanged := false }) (disch := first | omega | (simp <;> omega) | fail) only [go_sem, ↓reduceIte, reduceCtorEq, Nat.reduceEqDiff, Nat.reduceAdd, Nat.reduceMul, Nat.reduceSub, Nat.reduceLeDiff, Int.reduceEq, Int.reduceLT, Int.reduceLE, Int.reduceAdd, Int.reduceSub, Int.reduceMul, Int.reduceNeg, Int.reduceToNat]
  refine wp_loop' Nat (fun i => ⟨[(0, SS l), (1, .clo g [] caps), (7, .int l.length), (8, .int i)], [], [], none⟩) (fun i => i ≤ l.length ∧ ∀ x ∈ l.take i, p x = false) (fun i => l.length - i) 0 (by simp) (by simp (config := { failIfUnchanged := false }) (disch := first | omega | (simp <;> omega) | fail) only [go_sem, ↓reduceIte, reduceCtorEq, Nat.reduceEqDiff, Nat.reduceAdd, Nat.reduceMul, Nat.reduceSub, Nat.reduceLeDiff, Int.reduceEq, Int.reduceLT, Int.reduceLE, Int.reduceAdd, Int.reduceSub, Int.reduceMul, Int.reduceNeg, Int.reduceToNat]; rfl) ?_
  rintro i ⟨hi, hpre⟩
  simp (config := { failIfUnchanged := false }) (disch := first | omega | (simp <;> omega) | fail) only [go_sem, ↓reduceIte, reduceCtorEq, Nat.reduceEqDiff, Nat.reduceAdd, Nat.reduceMul, Nat.reduceSub, Nat.reduceLeDiff, Int.reduceEq, Int.reduceLT, Int.reduceLE, Int.reduceAdd, Int.reduceSub, Int.reduceMul, Int.reduceNeg, Int.reduceToNat]
  refine wcond_dec (fun h => ?_) (fun h => ?_)
  · simp (config := { failIfUnchanged := false }) (disch := first | omega | (simp <;> omega) | fail) only [go_sem, ↓reduceIte, reduceCtorEq, Nat.reduceEqDiff, Nat.reduceAdd, Nat.reduceMul, Nat.reduceSub, Nat.reduceLeDiff, Int.reduceEq, Int.reduceLT, Int.reduceLE, Int.reduceAdd, Int.reduceSub, Int.reduceMul, Int.reduceNeg, Int.reduceToNat]
    have hlt : i < l.length := by omega
    refine wcall (hp _ (mem_getD hlt)) ?_
    simp (config := { failIfUnchanged := false }) (disch := first | omega | (simp <;> omega) | fail) only [go_sem, ↓reduceIte, reduceCtorEq, Nat.reduceEqDiff, Nat.reduceAdd, Nat.reduceMul, Nat.reduceSub, Nat.reduceLeDiff, Int.reduceEq, Int.reduceLT, Int.reduceLE, Int.reduceAdd, Int.reduceSub, Int.reduceMul, Int.reduceNeg, Int.reduceToNat]
    refine wcond_bool (fun hb => ?_) (fun hb => ?_)
    · simp (config := { failIfUnchanged := false }) (disch := first | omega | (simp <;> omega) | fail) only [go_sem, ↓reduceIte, reduceCtorEq, Nat.reduceEqDiff, Nat.reduceAdd, Nat.reduceMul, Nat.reduceSub, Nat.reduceLeDiff, Int.reduceEq, Int.reduceLT, Int.reduceLE, Int.reduceAdd, Int.reduceSub, Int.reduceMul, Int.reduceNeg, Int.reduceToNat]
      rw [idxF_hit hlt hpre hb]
    · simp (config := { failIfUnchanged := false }) (disch := first | omega | (simp <;> omega) | fail) only [go_sem, ↓reduceIte, reduceCtorEq, Nat.reduceEqDiff, Nat.reduceAdd, Nat.reduceMul, Nat.reduceSub, Nat.reduceLeDiff, Int.reduceEq, Int.reduceLT, Int.reduceLE, Int.reduceAdd, Int.reduceSub, Int.reduceMul, Int.reduceNeg, Int.reduceToNat]
      refine ⟨i + 1, ⟨by omega, take_succ_all hlt hpre hb⟩, by dsimp only; omega, ?_⟩
      simp (config := { failIfUnchanged := false }) (disch := first | omega | (simp <;> omega) | fail) only [go_sem, ↓reduceIte, reduceCtorEq, Nat.reduceEqDiff, Nat.reduceAdd, Nat.reduceMul, Nat.reduceSub, Nat.reduceLeDiff, Int.reduceEq, Int.reduceLT, Int.reduceLE, Int.reduceAdd, Int.reduceSub, Int.reduceMul, Int.reduceNeg, Int.reduceToNat]
      simp
  · simp (config := { failIfUnchanged := false }) (disch := first | omega | (simp <;> omega) | fail) only [go_sem, ↓reduceIte, reduceCtorEq, Nat.reduceEqDiff, Nat.reduceAdd, Nat.reduceMul, Nat.reduceSub, Nat.reduceLeDiff, Int.reduceEq, Int.reduceLT, Int.reduceLE, Int.reduceAdd, Int.reduceSub, Int.reduceMul, Int.reduceNeg, Int.reduceToNat]
    have e : i = l.length := by omega
    rw [idxF_miss]
    rw [e, List.take_length] at hpre
    exact hpre

theorem c113 (l : List Sp) (g : Nat) (caps : List AV) (p : Sp → Bool) (hp : ∀ x ∈ l, Ctr Try.prog g ([SP x] ++ caps) (.bool (p x))) (hl : l.length < 4294967296) :
    Ctr Try.prog 113 [SS l, .clo g [] caps] (.bool (l.any p)) := by
  refine ctr_of_wp hmix Try.func113 m113 rfl ?_
  unfold v113
  simp (config := { failIfUnchanged := false }) (disch := first | omega | (simp <;> omega) | fail) only [go_sem, ↓reduceIte, reduceCtorEq, Nat.reduceEqDiff, Nat.reduceAdd, Nat.reduceMul, Nat.reduceSub, Nat.reduceLeDiff, Int.reduceEq, Int.reduceLT, Int.reduceLE, Int.reduceAdd, Int.reduceSub, Int.reduceMul, Int.reduceNeg, Int.reduceToNat]
  refine wcall (c116 l g caps p hp hl) ?_
  simp (config := { failIfUnchanged := false }) (disch := first | omega | (simp <;> omega) | fail) only [go_sem, ↓reduceIte, reduceCtorEq, Nat.reduceEqDiff, Nat.reduceAdd, Nat.reduceMul, Nat.reduceSub, Nat.reduceLeDiff, Int.reduceEq, Int.reduceLT, Int.reduceLE, Int.reduceAdd, Int.reduceSub, Int.reduceMul, Int.reduceNeg, Int.reduceToNat]
  rw [idxF_geq]

theorem c114 (l : List (List Sp)) (g : Nat) (caps : List AV) (p : List Sp → Bool) (hp : ∀ x ∈ l, Ctr Try.prog g ([SS x] ++ caps) (.bool (p x))) (hl : l.length < 4294967296) :
    Ctr Try.prog 114 [.sl 1 (l.map SS) .sh, .clo g [] caps] (.int (idxF p l)) := by
  refine ctr_of_wp hmix Try.func114 m114 rfl ?_
  unfold v114
  simp (config := { failIfUnchanged := false }) (disch := first | omega | (simp <;> omega) | fail) only [go_sem, ↓reduceIte, reduceCtorEq, Nat.reduceEqDiff, Nat.reduceAdd, Nat.reduceMul, Nat.reduceSub, Nat.reduceLeDiff, Int.reduceEq, Int.reduceLT, Int.reduceLE, Int.reduceAdd, Int.reduceSub, Int.reduceMul, Int.reduceNeg, Int.reduceToNat]
  refine wp_loop' Nat (fun i => ⟨[(0, .sl 1 (l.map SS) .sh), (1, .clo g [] caps), (7, .int l.length), (8, .int i)], [], [], none⟩) (fun i => i ≤ l.length ∧ ∀ x ∈ l.take i, p x = false) (fun i => l.length - i) 0 (by simp) (by simp (config := { failIfUnchanged := false }) (disch := first | omega | (simp <;> omega) | fail) only [go_sem, ↓reduceIte, reduceCtorEq, Nat.reduceEqDiff, Nat.reduceAdd, Nat.reduceMul, Nat.reduceSub, Nat.reduceLeDiff, Int.reduceEq, Int.reduceLT, Int.reduceLE, Int.reduceAdd, Int.reduceSub, Int.reduceMul, Int.reduceNeg, Int.reduceToNat]; rfl) ?_
  rintro i ⟨hi, hpre⟩
  simp (config := { failIfUnchanged := false }) (disch := first | omega | (simp <;> omega) | fail) only [go_sem, ↓reduceIte, reduceCtorEq, Nat.reduceEqDiff, Nat.reduceAdd, Nat.reduceMul, Nat.reduceSub, Nat.reduceLeDiff, Int.reduceEq, Int.reduceLT, Int.reduceLE, Int.reduceAdd, Int.reduceSub, Int.reduceMul, Int.reduceNeg, Int.reduceToNat]
  refine wcond_dec (fun h => ?_) (fun h => ?_)
  · simp (config := { failIfUnchanged := false }) (disch := first | omega | (simp <;> omega) | fail) only [go_sem, ↓reduceIte, reduceCtorEq, Nat.reduceEqDiff, Nat.reduceAdd, Nat.reduceMul, Nat.reduceSub, Nat.reduceLeDiff, Int.reduceEq, Int.reduceLT, Int.reduceLE, Int.reduceAdd, Int.reduceSub, Int.reduceMul, Int.reduceNeg, Int.reduceToNat]
    have hlt : i < l.length := by omega
    refine wcall (hp _ (mem_getD hlt)) ?_
    simp (config := { failIfUnchanged := false }) (disch := first | omega | (simp <;> omega) | fail) only [go_sem, ↓reduceIte, reduceCtorEq, Nat.reduceEqDiff, Nat.reduceAdd, Nat.reduceMul, Nat.reduceSub, Nat.reduceLeDiff, Int.reduceEq, Int.reduceLT, Int.reduceLE, Int.reduceAdd, Int.reduceSub, Int.reduceMul, Int.reduceNeg, Int.reduceToNat]
    refine wcond_bool (fun hb => ?_) (fun hb => ?_)
    · simp (config := { failIfUnchanged := false }) (disch := first | omega | (simp <;> omega) | fail) only [go_sem, ↓reduceIte, reduceCtorEq, Nat.reduceEqDiff, Nat.reduceAdd, Nat.reduceMul, Nat.reduceSub, Nat.reduceLeDiff, Int.reduceEq, Int.reduceLT, Int.reduceLE, Int.reduceAdd, Int.reduceSub, Int.reduceMul, Int.reduceNeg, Int.reduceToNat]
      rw [idxF_hit hlt hpre hb]
    · simp (config := { failIfUnchanged := false }) (disch := first | omega | (simp <;> omega) | fail) only [go_sem, ↓reduceIte, reduceCtorEq, Nat.reduceEqDiff, Nat.reduceAdd, Nat.reduceMul, Nat.reduceSub, Nat.reduceLeDiff, Int.reduceEq, Int.reduceLT, Int.reduceLE, Int.reduceAdd, Int.reduceSub, Int.reduceMul, Int.reduceNeg, Int.reduceToNat]
      refine ⟨i + 1, ⟨by omega, take_succ_all hlt hpre hb⟩, by dsimp only; omega, ?_⟩
      simp (config := { failIfUnchanged := false }) (disch := first | omega | (simp <;> omega) | fail) only [go_sem, ↓reduceIte, reduceCtorEq, Nat.reduceEqDiff, Nat.reduceAdd, Nat.reduceMul, Nat.reduceSub, Nat.reduceLeDiff, Int.reduceEq, Int.reduceLT, Int.reduceLE, Int.reduceAdd, Int.reduceSub, Int.reduceMul, Int.reduceNeg, Int.reduceToNat]
      simp
  · simp (config := { failIfUnchanged := false }) (disch := first | omega | (simp <;> omega) | fail) only [go_sem, ↓reduceIte, reduceCtorEq, Nat.reduceEqDiff, Nat.reduceAdd, Nat.reduceMul, Nat.reduceSub, Nat.reduceLeDiff, Int.reduceEq, Int.reduceLT, Int.reduceLE, Int.reduceAdd, Int.reduceSub, Int.reduceMul, Int.reduceNeg, Int.reduceToNat]
    have e : i = l.length := by omega
    rw [idxF_miss]
    rw [e, List.take_length] at hpre
    exact hpre

theorem c92 (l : List (List Sp)) (g : Nat) (caps : List AV) (p : List Sp → Bool) (hp : ∀ x ∈ l, Ctr Try.prog g ([SS x] ++ caps) (.bool (p x))) (hl : l.length < 4294967296) :
    Ctr Try.prog 92 [.sl 1 (l.map SS) .sh, .clo g [] caps] (.bool (l.any p)) := by
  refine ctr_of_wp hmix Try.func92 m92 rfl ?_
  unfold v92
  simp (config := { failIfUnchanged := false }) (disch := first | omega | (simp <;> omega) | fail) only [go_sem, ↓reduceIte, reduceCtorEq, Nat.reduceEqDiff, Nat.reduceAdd, Nat.reduceMul, Nat.reduceSub, Nat.reduceLeDiff, Int.reduceEq, Int.reduceLT, Int.reduceLE, Int.reduceAdd, Int.reduceSub, Int.reduceMul, Int.reduceNeg, Int.reduceToNat]
  refine wcall (c114 l g caps p hp hl) ?_
  simp (config := { failIfUnchanged := false }) (disch := first | omega | (simp <;> omega) | fail) only [go_sem, ↓reduceIte, reduceCtorEq, Nat.reduceEqDiff, Nat.reduceAdd, Nat.reduceMul, Nat.reduceSub, Nat.reduceLeDiff, Int.reduceEq, Int.reduceLT, Int.reduceLE, Int.reduceAdd, Int.reduceSub, Int.reduceMul, Int.reduceNeg, Int.reduceToNat]
  rw [idxF_geq]

theorem c115 (l : List Int) (g : Nat) (caps : List AV) (p : Int → Bool) (hp : ∀ x ∈ l, Ctr Try.prog g ([.int x] ++ caps) (.bool (p x))) (hl : l.length < 4294967296) :
    Ctr Try.prog 115 [.sl 1 (l.map .int) .sh, .clo g [] caps] (.int (idxF p l)) := by
  refine ctr_of_wp hmix Try.func115 m115 rfl ?_
  unfold v115
  simp (config := { failIfUnchanged := false }) (disch := first | omega | (simp <;> omega) | fail) only [go_sem, ↓reduceIte, reduceCtorEq, Nat.reduceEqDiff, Nat.reduceAdd, Nat.reduceMul, Nat.reduceSub, Nat.reduceLeDiff, Int.reduceEq, Int.reduceLT, Int.reduceLE, Int.reduceAdd, Int.reduceSub, Int.reduceMul, Int.reduceNeg, Int.reduceToNat]
  refine wp_loop' Nat (fun i => ⟨[(0, .sl 1 (l.map .int) .sh), (1, .clo g [] caps), (7, .int l.length), (8, .int i)], [], [], none⟩) (fun i => i ≤ l.length ∧ ∀ x ∈ l.take i, p x = false) (fun i => l.length - i) 0 (by simp) (by simp (config := { failIfUnchanged := false }) (disch := first | omega | (simp <;> omega) | fail) only [go_sem, ↓reduceIte, reduceCtorEq, Nat.reduceEqDiff, Nat.reduceAdd, Nat.reduceMul, Nat.reduceSub, Nat.reduceLeDiff, Int.reduceEq, Int.reduceLT, Int.reduceLE, Int.reduceAdd, Int.reduceSub, Int.reduceMul, Int.reduceNeg, Int.reduceToNat]; rfl) ?_
  rintro i ⟨hi, hpre⟩
  simp (config := { failIfUnchanged := false }) (disch := first | omega | (simp <;> omega) | fail) only [go_sem, ↓reduceIte, reduceCtorEq, Nat.reduceEqDiff, Nat.reduceAdd, Nat.reduceMul, Nat.reduceSub, Nat.reduceLeDiff, Int.reduceEq, Int.reduceLT, Int.reduceLE, Int.reduceAdd, Int.reduceSub, Int.reduceMul, Int.reduceNeg, Int.reduceToNat]
  refine wcond_dec (fun h => ?_) (fun h => ?_)
  · simp (config := { failIfUnchanged := false }) (disch := first | omega | (simp <;> omega) | fail) only [go_sem, ↓reduceIte, reduceCtorEq, Nat.reduceEqDiff, Nat.reduceAdd, Nat.reduceMul, Nat.reduceSub, Nat.reduceLeDiff, Int.reduceEq, Int.reduceLT, Int.reduceLE, Int.reduceAdd, Int.reduceSub, Int.reduceMul, Int.reduceNeg, Int.reduceToNat]
    have hlt : i < l.length := by omega
    refine wcall (hp _ (mem_getD hlt)) ?_
    simp (config := { failIfUnchanged := false }) (disch := first | omega | (simp <;> omega) | fail) only [go_sem, ↓reduceIte, reduceCtorEq, Nat.reduceEqDiff, Nat.reduceAdd, Nat.reduceMul, Nat.reduceSub, Nat.reduceLeDiff, Int.reduceEq, Int.reduceLT, Int.reduceLE, Int.reduceAdd, Int.reduceSub, Int.reduceMul, Int.reduceNeg, Int.reduceToNat]
    refine wcond_bool (fun hb => ?_) (fun hb => ?_)
    · simp (config := { failIfUnchanged := false }) (disch := first | omega | (simp <;> omega) | fail) only [go_sem, ↓reduceIte, reduceCtorEq, Nat.reduceEqDiff, Nat.reduceAdd, Nat.reduceMul, Nat.reduceSub, Nat.reduceLeDiff, Int.reduceEq, Int.reduceLT, Int.reduceLE, Int.reduceAdd, Int.reduceSub, Int.reduceMul, Int.reduceNeg, Int.reduceToNat]
      rw [idxF_hit hlt hpre hb]
    · simp (config := { failIfUnchanged := false }) (disch := first | omega | (simp <;> omega) | fail) only [go_sem, ↓reduceIte, reduceCtorEq, Nat.reduceEqDiff, Nat.reduceAdd, Nat.reduceMul, Nat.reduceSub, Nat.reduceLeDiff, Int.reduceEq, Int.reduceLT, Int.reduceLE, Int.reduceAdd, Int.reduceSub, Int.reduceMul, Int.reduceNeg, Int.reduceToNat]
      refine ⟨i + 1, ⟨by omega, take_succ_all hlt hpre hb⟩, by dsimp only; omega, ?_⟩
      simp (config := { failIfUnchanged := false }) (disch := first | omega | (simp <;> omega) | fail) only [go_sem, ↓reduceIte, reduceCtorEq, Nat.reduceEqDiff, Nat.reduceAdd, Nat.reduceMul, Nat.reduceSub, Nat.reduceLeDiff, Int.reduceEq, Int.reduceLT, Int.reduceLE, Int.reduceAdd, Int.reduceSub, Int.reduceMul, Int.reduceNeg, Int.reduceToNat]
      simp
  · simp (config := { failIfUnchanged := false }) (disch := first | omega | (simp <;> omega) | fail) only [go_sem, ↓reduceIte, reduceCtorEq, Nat.reduceEqDiff, Nat.reduceAdd, Nat.reduceMul, Nat.reduceSub, Nat.reduceLeDiff, Int.reduceEq, Int.reduceLT, Int.reduceLE, Int.reduceAdd, Int.reduceSub, Int.reduceMul, Int.reduceNeg, Int.reduceToNat]
    have e : i = l.length := by omega
    rw [idxF_miss]
    rw [e, List.take_length] at hpre
    exact hpre

theorem c110 (l : List Int) (g : Nat) (caps : List AV) (p : Int → Bool) (hp : ∀ x ∈ l, Ctr Try.prog g ([.int x] ++ caps) (.bool (p x))) (hl : l.length < 4294967296) :
    Ctr Try.prog 110 [.sl 1 (l.map .int) .sh, .clo g [] caps] (.bool (l.any p)) := by
  refine ctr_of_wp hmix Try.func110 m110 rfl ?_
  unfold v110
  simp (config := { failIfUnchanged := false }) (disch := first | omega | (simp <;> omega) | fail) only [go_sem, ↓reduceIte, reduceCtorEq, Nat.reduceEqDiff, Nat.reduceAdd, Nat.reduceMul, Nat.reduceSub, Nat.reduceLeDiff, Int.reduceEq, Int.reduceLT, Int.reduceLE, Int.reduceAdd, Int.reduceSub, Int.reduceMul, Int.reduceNeg, Int.reduceToNat]
  refine wcall (c115 l g caps p hp hl) ?_
  simp (config := { failIfUnchanged := false }) (disch := first | omega | (simp <;> omega) | fail) only [go_sem, ↓reduceIte, reduceCtorEq, Nat.reduceEqDiff, Nat.reduceAdd, Nat.reduceMul, Nat.reduceSub, Nat.reduceLeDiff, Int.reduceEq, Int.reduceLT, Int.reduceLE, Int.reduceAdd, Int.reduceSub, Int.reduceMul, Int.reduceNeg, Int.reduceToNat]
  rw [idxF_geq]

def badS (b : Bk) (s : Sp) : Bool := !within s.lo 0 s.hi || decide (b.base ≤ s.hi)
def isCordB (b : Bk) (l : List Sp) : Bool := decide ((l.length : Int) = b.places) && !l.any (badS b)
def checkB (b : Bk) : Bool := within b.base 2 10 && (within b.places 1 4 && (decide ((b.cords.length : Int) ≤ 4) && (!b.cords.any (fun l => !isCordB b l) && isCordB b b.top)))

structure Small (b : Bk) : Prop where
  cords : b.cords.length < 4294967296
  top : b.top.length < 4294967296
  each : ∀ l ∈ b.cords, l.length < 4294967296

theorem c112 (b : Bk) (s : Sp) : Ctr Try.prog 112 [SP s, .ref 4 [KB b] 0 0] (.bool (badS b s)) := by
  refine ctr_of_wp hmix Try.func112 m112 rfl ?_
  unfold v112
  simp (config := { failIfUnchanged := false }) (disch := first | omega | (simp <;> omega) | fail) only [go_sem, ↓reduceIte, reduceCtorEq, Nat.reduceEqDiff, Nat.reduceAdd, Nat.reduceMul, Nat.reduceSub, Nat.reduceLeDiff, Int.reduceEq, Int.reduceLT, Int.reduceLE, Int.reduceAdd, Int.reduceSub, Int.reduceMul, Int.reduceNeg, Int.reduceToNat]
  refine wcall (c86 _ _ _) ?_
  simp (config := { failIfUnchanged := false }) (disch := first | omega | (simp <;> omega) | fail) only [go_sem, ↓reduceIte, reduceCtorEq, Nat.reduceEqDiff, Nat.reduceAdd, Nat.reduceMul, Nat.reduceSub, Nat.reduceLeDiff, Int.reduceEq, Int.reduceLT, Int.reduceLE, Int.reduceAdd, Int.reduceSub, Int.reduceMul, Int.reduceNeg, Int.reduceToNat]
  refine WGd_bool (fun h => ?_) (fun h => ?_)
  · simp (config := { failIfUnchanged := false }) (disch := first | omega | (simp <;> omega) | fail) only [go_sem, ↓reduceIte, reduceCtorEq, Nat.reduceEqDiff, Nat.reduceAdd, Nat.reduceMul, Nat.reduceSub, Nat.reduceLeDiff, Int.reduceEq, Int.reduceLT, Int.reduceLE, Int.reduceAdd, Int.reduceSub, Int.reduceMul, Int.reduceNeg, Int.reduceToNat, h]
    simp [badS, h]
  · simp (config := { failIfUnchanged := false }) (disch := first | omega | (simp <;> omega) | fail) only [go_sem, ↓reduceIte, reduceCtorEq, Nat.reduceEqDiff, Nat.reduceAdd, Nat.reduceMul, Nat.reduceSub, Nat.reduceLeDiff, Int.reduceEq, Int.reduceLT, Int.reduceLE, Int.reduceAdd, Int.reduceSub, Int.reduceMul, Int.reduceNeg, Int.reduceToNat, h]
    simp only [Bool.not_false] at h
    simp [badS, h]

theorem c91 (b : Bk) (l : List Sp) (hl : l.length < 4294967296) : Ctr Try.prog 91 [KB b, SS l] (.bool (isCordB b l)) := by
  refine ctr_of_wp hmix Try.func91 m91 rfl ?_
  unfold v91
  simp (config := { failIfUnchanged := false }) (disch := first | omega | (simp <;> omega) | fail) only [go_sem, ↓reduceIte, reduceCtorEq, Nat.reduceEqDiff, Nat.reduceAdd, Nat.reduceMul, Nat.reduceSub, Nat.reduceLeDiff, Int.reduceEq, Int.reduceLT, Int.reduceLE, Int.reduceAdd, Int.reduceSub, Int.reduceMul, Int.reduceNeg, Int.reduceToNat]
  refine WGd_bool (fun h => ?_) (fun h => ?_)
  · simp (config := { failIfUnchanged := false }) (disch := first | omega | (simp <;> omega) | fail) only [go_sem, ↓reduceIte, reduceCtorEq, Nat.reduceEqDiff, Nat.reduceAdd, Nat.reduceMul, Nat.reduceSub, Nat.reduceLeDiff, Int.reduceEq, Int.reduceLT, Int.reduceLE, Int.reduceAdd, Int.reduceSub, Int.reduceMul, Int.reduceNeg, Int.reduceToNat, h]
    refine wcall (c113 l 112 _ (badS b) (fun x _ => c112 b x) hl) ?_
    simp (config := { failIfUnchanged := false }) (disch := first | omega | (simp <;> omega) | fail) only [go_sem, ↓reduceIte, reduceCtorEq, Nat.reduceEqDiff, Nat.reduceAdd, Nat.reduceMul, Nat.reduceSub, Nat.reduceLeDiff, Int.reduceEq, Int.reduceLT, Int.reduceLE, Int.reduceAdd, Int.reduceSub, Int.reduceMul, Int.reduceNeg, Int.reduceToNat, h]
    simp [isCordB, h]
  · simp (config := { failIfUnchanged := false }) (disch := first | omega | (simp <;> omega) | fail) only [go_sem, ↓reduceIte, reduceCtorEq, Nat.reduceEqDiff, Nat.reduceAdd, Nat.reduceMul, Nat.reduceSub, Nat.reduceLeDiff, Int.reduceEq, Int.reduceLT, Int.reduceLE, Int.reduceAdd, Int.reduceSub, Int.reduceMul, Int.reduceNeg, Int.reduceToNat, h]
    simp only [Bool.not_true] at h
    simp [isCordB, h]

theorem c90 (b : Bk) (l : List Sp) (hl : l.length < 4294967296) : Ctr Try.prog 90 [SS l, .ref 4 [KB b] 0 0] (.bool (!isCordB b l)) := by
  refine ctr_of_wp hmix Try.func90 m90 rfl ?_
  unfold v90
  simp (config := { failIfUnchanged := false }) (disch := first | omega | (simp <;> omega) | fail) only [go_sem, ↓reduceIte, reduceCtorEq, Nat.reduceEqDiff, Nat.reduceAdd, Nat.reduceMul, Nat.reduceSub, Nat.reduceLeDiff, Int.reduceEq, Int.reduceLT, Int.reduceLE, Int.reduceAdd, Int.reduceSub, Int.reduceMul, Int.reduceNeg, Int.reduceToNat]
  refine wcall (c91 b l hl) ?_
  simp (config := { failIfUnchanged := false }) (disch := first | omega | (simp <;> omega) | fail) only [go_sem, ↓reduceIte, reduceCtorEq, Nat.reduceEqDiff, Nat.reduceAdd, Nat.reduceMul, Nat.reduceSub, Nat.reduceLeDiff, Int.reduceEq, Int.reduceLT, Int.reduceLE, Int.reduceAdd, Int.reduceSub, Int.reduceMul, Int.reduceNeg, Int.reduceToNat]

theorem c49 (b : Bk) (hs : Small b) : Ctr Try.prog 49 [KB b] (.int (if checkB b then 0 else 110)) := by
  refine ctr_of_wp hmix Try.func49 m49 rfl ?_
  unfold v49
  simp (config := { failIfUnchanged := false }) (disch := first | omega | (simp <;> omega) | fail) only [go_sem, ↓reduceIte, reduceCtorEq, Nat.reduceEqDiff, Nat.reduceAdd, Nat.reduceMul, Nat.reduceSub, Nat.reduceLeDiff, Int.reduceEq, Int.reduceLT, Int.reduceLE, Int.reduceAdd, Int.reduceSub, Int.reduceMul, Int.reduceNeg, Int.reduceToNat]
  refine wcall (c86 _ _ _) ?_
  simp (config := { failIfUnchanged := false }) (disch := first | omega | (simp <;> omega) | fail) only [go_sem, ↓reduceIte, reduceCtorEq, Nat.reduceEqDiff, Nat.reduceAdd, Nat.reduceMul, Nat.reduceSub, Nat.reduceLeDiff, Int.reduceEq, Int.reduceLT, Int.reduceLE, Int.reduceAdd, Int.reduceSub, Int.reduceMul, Int.reduceNeg, Int.reduceToNat]
  refine WGd_bool (fun h1 => ?_) (fun h1 => ?_)
  · simp (config := { failIfUnchanged := false }) (disch := first | omega | (simp <;> omega) | fail) only [go_sem, ↓reduceIte, reduceCtorEq, Nat.reduceEqDiff, Nat.reduceAdd, Nat.reduceMul, Nat.reduceSub, Nat.reduceLeDiff, Int.reduceEq, Int.reduceLT, Int.reduceLE, Int.reduceAdd, Int.reduceSub, Int.reduceMul, Int.reduceNeg, Int.reduceToNat, h1]
    refine wcall (c86 _ _ _) ?_
    simp (config := { failIfUnchanged := false }) (disch := first | omega | (simp <;> omega) | fail) only [go_sem, ↓reduceIte, reduceCtorEq, Nat.reduceEqDiff, Nat.reduceAdd, Nat.reduceMul, Nat.reduceSub, Nat.reduceLeDiff, Int.reduceEq, Int.reduceLT, Int.reduceLE, Int.reduceAdd, Int.reduceSub, Int.reduceMul, Int.reduceNeg, Int.reduceToNat]
    refine WGd_bool (fun h2 => ?_) (fun h2 => ?_)
    · simp (config := { failIfUnchanged := false }) (disch := first | omega | (simp <;> omega) | fail) only [go_sem, ↓reduceIte, reduceCtorEq, Nat.reduceEqDiff, Nat.reduceAdd, Nat.reduceMul, Nat.reduceSub, Nat.reduceLeDiff, Int.reduceEq, Int.reduceLT, Int.reduceLE, Int.reduceAdd, Int.reduceSub, Int.reduceMul, Int.reduceNeg, Int.reduceToNat, h2]
      refine WGd_bool (fun h3 => ?_) (fun h3 => ?_)
      · simp (config := { failIfUnchanged := false }) (disch := first | omega | (simp <;> omega) | fail) only [go_sem, ↓reduceIte, reduceCtorEq, Nat.reduceEqDiff, Nat.reduceAdd, Nat.reduceMul, Nat.reduceSub, Nat.reduceLeDiff, Int.reduceEq, Int.reduceLT, Int.reduceLE, Int.reduceAdd, Int.reduceSub, Int.reduceMul, Int.reduceNeg, Int.reduceToNat, h3]
        refine wcall (c92 b.cords 90 _ (fun l => !isCordB b l) (fun x hx => c90 b x (hs.each x hx)) hs.cords) ?_
        simp (config := { failIfUnchanged := false }) (disch := first | omega | (simp <;> omega) | fail) only [go_sem, ↓reduceIte, reduceCtorEq, Nat.reduceEqDiff, Nat.reduceAdd, Nat.reduceMul, Nat.reduceSub, Nat.reduceLeDiff, Int.reduceEq, Int.reduceLT, Int.reduceLE, Int.reduceAdd, Int.reduceSub, Int.reduceMul, Int.reduceNeg, Int.reduceToNat]
        refine WGd_bool (fun h4 => ?_) (fun h4 => ?_)
        · simp (config := { failIfUnchanged := false }) (disch := first | omega | (simp <;> omega) | fail) only [go_sem, ↓reduceIte, reduceCtorEq, Nat.reduceEqDiff, Nat.reduceAdd, Nat.reduceMul, Nat.reduceSub, Nat.reduceLeDiff, Int.reduceEq, Int.reduceLT, Int.reduceLE, Int.reduceAdd, Int.reduceSub, Int.reduceMul, Int.reduceNeg, Int.reduceToNat, h4]
          refine wcall (c90 b b.top hs.top) ?_
          simp (config := { failIfUnchanged := false }) (disch := first | omega | (simp <;> omega) | fail) only [go_sem, ↓reduceIte, reduceCtorEq, Nat.reduceEqDiff, Nat.reduceAdd, Nat.reduceMul, Nat.reduceSub, Nat.reduceLeDiff, Int.reduceEq, Int.reduceLT, Int.reduceLE, Int.reduceAdd, Int.reduceSub, Int.reduceMul, Int.reduceNeg, Int.reduceToNat]
          refine wcond_bool (fun h5 => ?_) (fun h5 => ?_)
          · simp (config := { failIfUnchanged := false }) (disch := first | omega | (simp <;> omega) | fail) only [go_sem, ↓reduceIte, reduceCtorEq, Nat.reduceEqDiff, Nat.reduceAdd, Nat.reduceMul, Nat.reduceSub, Nat.reduceLeDiff, Int.reduceEq, Int.reduceLT, Int.reduceLE, Int.reduceAdd, Int.reduceSub, Int.reduceMul, Int.reduceNeg, Int.reduceToNat]
            simp_all [checkB]
          · simp (config := { failIfUnchanged := false }) (disch := first | omega | (simp <;> omega) | fail) only [go_sem, ↓reduceIte, reduceCtorEq, Nat.reduceEqDiff, Nat.reduceAdd, Nat.reduceMul, Nat.reduceSub, Nat.reduceLeDiff, Int.reduceEq, Int.reduceLT, Int.reduceLE, Int.reduceAdd, Int.reduceSub, Int.reduceMul, Int.reduceNeg, Int.reduceToNat]
            simp_all [checkB]
        · simp (config := { failIfUnchanged := false }) (disch := first | omega | (simp <;> omega) | fail) only [go_sem, ↓reduceIte, reduceCtorEq, Nat.reduceEqDiff, Nat.reduceAdd, Nat.reduceMul, Nat.reduceSub, Nat.reduceLeDiff, Int.reduceEq, Int.reduceLT, Int.reduceLE, Int.reduceAdd, Int.reduceSub, Int.reduceMul, Int.reduceNeg, Int.reduceToNat, h4]
          simp_all [checkB]
          intro ha
          obtain ⟨x, hx, hx2⟩ := h4
          simp [ha x hx] at hx2
      · simp (config := { failIfUnchanged := false }) (disch := first | omega | (simp <;> omega) | fail) only [go_sem, ↓reduceIte, reduceCtorEq, Nat.reduceEqDiff, Nat.reduceAdd, Nat.reduceMul, Nat.reduceSub, Nat.reduceLeDiff, Int.reduceEq, Int.reduceLT, Int.reduceLE, Int.reduceAdd, Int.reduceSub, Int.reduceMul, Int.reduceNeg, Int.reduceToNat, h3]
        simp_all [checkB]
        intro hc
        omega
    · simp (config := { failIfUnchanged := false }) (disch := first | omega | (simp <;> omega) | fail) only [go_sem, ↓reduceIte, reduceCtorEq, Nat.reduceEqDiff, Nat.reduceAdd, Nat.reduceMul, Nat.reduceSub, Nat.reduceLeDiff, Int.reduceEq, Int.reduceLT, Int.reduceLE, Int.reduceAdd, Int.reduceSub, Int.reduceMul, Int.reduceNeg, Int.reduceToNat, h2]
      simp_all [checkB]
  · simp (config := { failIfUnchanged := false }) (disch := first | omega | (simp <;> omega) | fail) only [go_sem, ↓reduceIte, reduceCtorEq, Nat.reduceEqDiff, Nat.reduceAdd, Nat.reduceMul, Nat.reduceSub, Nat.reduceLeDiff, Int.reduceEq, Int.reduceLT, Int.reduceLE, Int.reduceAdd, Int.reduceSub, Int.reduceMul, Int.reduceNeg, Int.reduceToNat, h1]
    simp_all [checkB]

end Go.Proofs.Ytkkiipjfbebipaa

/- Sums: arrays of ways. -/
set_option linter.unusedSimpArgs false
set_option linter.unusedVariables false
set_option linter.unnecessarySimpa false
namespace Go.Proofs.Ytkkiipjfbebipaa
open Go Go.V

structure Wy where
  k : Int
  r : Int
  deriving Inhabited, DecidableEq

def wcs : List Wy → List AV
  | [] => []
  | w :: l => .int w.k :: .int w.r :: wcs l

abbrev WS (ws : List Wy) : AV := .agg (wcs ws)

theorem wcs_len (ws : List Wy) : (wcs ws).length = 2 * ws.length := by
  induction ws with
  | nil => rfl
  | cons w l ih => simp only [wcs, List.length_cons, ih]; omega

theorem zeros_wcs (n : Nat) : zeros [.int 0, .int 0] n = wcs (List.replicate n ⟨0, 0⟩) := by
  induction n with
  | zero => rfl
  | succ n ih => simp only [zeros, List.replicate_succ, wcs, ih]; rfl

theorem wcs_get0 {ws : List Wy} {i : Nat} (h : i < ws.length) : (wcs ws)[i * 2]?.getD .und = .int (ws[i]?.getD default).k := by
  induction ws generalizing i with
  | nil => simp at h
  | cons w l ih =>
    cases i with
    | zero => rfl
    | succ i =>
      rw [show (i + 1) * 2 = i * 2 + 2 by omega]
      simp only [wcs, List.getElem?_cons_succ]
      exact ih (by simpa using h)

theorem wcs_get1 {ws : List Wy} {i : Nat} (h : i < ws.length) : (wcs ws)[i * 2 + 1]?.getD .und = .int (ws[i]?.getD default).r := by
  induction ws generalizing i with
  | nil => simp at h
  | cons w l ih =>
    cases i with
    | zero => rfl
    | succ i =>
      rw [show (i + 1) * 2 + 1 = i * 2 + 1 + 2 by omega]
      simp only [wcs, List.getElem?_cons_succ]
      exact ih (by simpa using h)

theorem wcs_take2 {ws : List Wy} {i : Nat} (h : i < ws.length) : ((wcs ws).drop (i * 2)).take 2 = [.int (ws[i]?.getD default).k, .int (ws[i]?.getD default).r] := by
  induction ws generalizing i with
  | nil => simp at h
  | cons w l ih =>
    cases i with
    | zero => rfl
    | succ i =>
      rw [show (i + 1) * 2 = i * 2 + 2 by omega]
      simp only [wcs, List.drop_succ_cons, List.getElem?_cons_succ]
      exact ih (by simpa using h)

theorem wcs_take2z {ws : List Wy} (h : 0 < ws.length) : (wcs ws).take 2 = [.int (ws[0]?.getD default).k, .int (ws[0]?.getD default).r] := wcs_take2 (i := 0) h

theorem wcs_all {ws : List Wy} {n : Nat} (h : 2 * ws.length ≤ n) : (wcs ws).take n = wcs ws := List.take_of_length_le (by rw [wcs_len]; exact h)

theorem wcs_map {ws : List Wy} {hp : List (Nat × BX)} : (wcs ws).map (strip hp) = wcs ws := by
  induction ws with
  | nil => rfl
  | cons w l ih => simp only [wcs, List.map_cons, ih, strip_int]

theorem wcs_bids {ws : List Wy} : bids (wcs ws) = [] := by
  induction ws with
  | nil => rfl
  | cons w l ih => simp only [wcs, bids, AV.bid, ih, List.append_nil]

theorem setAt_wcs0 {ws : List Wy} {i : Nat} {x : Int} (h : i < ws.length) : setAt (wcs ws) (i * 2) [.int x] = wcs (ws.set i ⟨x, (ws[i]?.getD default).r⟩) := by
  induction ws generalizing i with
  | nil => simp at h
  | cons w l ih =>
    cases i with
    | zero => rfl
    | succ i =>
      rw [show (i + 1) * 2 = i * 2 + 1 + 1 by omega]
      simp only [wcs, setAt, List.set_cons_succ, List.getElem?_cons_succ]
      rw [ih (by simpa using h)]

theorem setAt_wcs1 {ws : List Wy} {i : Nat} {x : Int} (h : i < ws.length) : setAt (wcs ws) (i * 2 + 1) [.int x] = wcs (ws.set i ⟨(ws[i]?.getD default).k, x⟩) := by
  induction ws generalizing i with
  | nil => simp at h
  | cons w l ih =>
    cases i with
    | zero => rfl
    | succ i =>
      rw [show (i + 1) * 2 + 1 = (i * 2 + 1) + 1 + 1 by omega]
      simp only [wcs, setAt, List.set_cons_succ, List.getElem?_cons_succ]
      rw [ih (by simpa using h)]

theorem setAt_wcs2 {ws : List Wy} {i : Nat} {x y : Int} (h : i < ws.length) : setAt (wcs ws) (i * 2) [.int x, .int y] = wcs (ws.set i ⟨x, y⟩) := by
  induction ws generalizing i with
  | nil => simp at h
  | cons w l ih =>
    cases i with
    | zero => rfl
    | succ i =>
      rw [show (i + 1) * 2 = i * 2 + 1 + 1 by omega]
      simp only [wcs, setAt, List.set_cons_succ]
      rw [ih (by simpa using h)]

theorem setAt_wcs2z {ws : List Wy} {x y : Int} (h : 0 < ws.length) : setAt (wcs ws) 0 [.int x, .int y] = wcs (ws.set 0 ⟨x, y⟩) := setAt_wcs2 (i := 0) h

theorem setAt_wcsA {ws us : List Wy} (h : ws.length ≤ us.length) : setAt (wcs ws) 0 (wcs us) = wcs us := by
  rw [setAt_0, List.drop_eq_nil_of_le (by rw [wcs_len, wcs_len]; omega), List.append_nil]

theorem ag111 : aggOf Try.prog 111 = some true := by kernel_rfl
theorem sz111 : szOf Try.prog 111 = some 102 := by kernel_rfl

theorem out1_eq {P : Program} {fr : List (Nat × AV)} {hp : List (Nat × BX)} {tk : List (Nat × Nat)} {pd : Option Ex} {t : Nat} {ty : TypeId} : out1 P ⟨fr, hp, tk, pd⟩ (.cell t ty) = (match get fr t with
    | .ptr b 0 => match getB hp b with
      | some ⟨cells, true⟩ => match aggOf P ty with
        | some true => if szOf P ty = some cells.length then .agg cells else .und
        | some false => match cells with
          | [x] => x
          | _ => .und
        | none => .und
      | _ => .und
    | _ => .und) := rfl

theorem if_len {ws : List Wy} {x y : AV} (h : ws.length = 51) : (if some 102 = some (2 * ws.length) then x else y) = x := by rw [h]; rfl

theorem scopes_wcs {τ : AS} {ws : List Wy} : scopes τ (wcs ws) = True := by
  induction ws with
  | nil => rfl
  | cons w l ih => simp only [wcs, scopes, inScope, ih, and_self]

theorem wcs_len51 {ws : List Wy} (h : ws.length = 51) : (2 * ws.length = 102) = True := by simp [h]

theorem drop_wcs {ws : List Wy} {k : Nat} (h : 2 * ws.length ≤ k) : (wcs ws).drop k = [] := List.drop_eq_nil_of_le (by rw [wcs_len]; exact h)
theorem if_len' {ws : List Wy} {x y : AV} (h : ws.length = 51) : (if 102 = 2 * ws.length then x else y) = x := by rw [h]; rfl

attribute [go_sem] wcs_take2z setAt_wcs2z drop_wcs if_len' wcs_len51 scopes_wcs wcs_len zeros_wcs wcs_get0 wcs_get1 wcs_take2 wcs_all wcs_map wcs_bids setAt_wcs0 setAt_wcs1 setAt_wcs2 setAt_wcsA ag111 sz111 out1_eq if_len List.length_replicate List.length_set
attribute [go_sem ↓] setAt_wcs0 setAt_wcs1 setAt_wcs2 setAt_wcsA

/-- Sums of which none can be, but for one. -/
def emptyL (sum : Nat) : List Wy := (List.replicate 51 ⟨1048576, 0⟩).set sum ⟨0, 1⟩

theorem c105 (n : Nat) (hn : n < 51) : Ctr Try.prog 105 [.int n] (WS (emptyL n)) := by
  refine ctr_of_wp hmix Try.func105 m105 rfl ?_
  unfold v105
  simp (config := { failIfUnchanged := false }) (disch := first | omega | (simp [wcs_len] <;> omega) | fail) only [go_sem, ↓reduceIte, reduceCtorEq, Nat.reduceEqDiff, Nat.reduceAdd, Nat.reduceMul, Nat.reduceSub, Nat.reduceLeDiff, Int.reduceEq, Int.reduceLT, Int.reduceLE, Int.reduceAdd, Int.reduceSub, Int.reduceMul, Int.reduceNeg, Int.reduceToNat]
  refine wp_loop' (Nat × List Wy) (fun x => ⟨[(0, .int n), (2, .ptr 2 0), (4, .int x.1)], [(2, ⟨wcs x.2, false⟩)], [], none⟩) (fun x => x.1 ≤ 51 ∧ x.2 = List.replicate x.1 ⟨1048576, 0⟩ ++ List.replicate (51 - x.1) ⟨0, 0⟩) (fun x => 51 - x.1) (0, List.replicate 51 ⟨0, 0⟩) (by simp) (by simp (config := { failIfUnchanged := false }) (disch := first | omega | (simp [wcs_len] <;> omega) | fail) only [go_sem, ↓reduceIte, reduceCtorEq, Nat.reduceEqDiff, Nat.reduceAdd, Nat.reduceMul, Nat.reduceSub, Nat.reduceLeDiff, Int.reduceEq, Int.reduceLT, Int.reduceLE, Int.reduceAdd, Int.reduceSub, Int.reduceMul, Int.reduceNeg, Int.reduceToNat]; simp) ?_
  rintro ⟨i, ws⟩ ⟨hi, hws⟩
  dsimp only at hi hws ⊢
  have hlen : ws.length = 51 := by rw [hws]; simp; omega
  simp (config := { failIfUnchanged := false }) (disch := first | omega | (simp [wcs_len] <;> omega) | fail) only [go_sem, ↓reduceIte, reduceCtorEq, Nat.reduceEqDiff, Nat.reduceAdd, Nat.reduceMul, Nat.reduceSub, Nat.reduceLeDiff, Int.reduceEq, Int.reduceLT, Int.reduceLE, Int.reduceAdd, Int.reduceSub, Int.reduceMul, Int.reduceNeg, Int.reduceToNat]
  refine wcond_dec (fun h => ?_) (fun h => ?_)
  · simp (config := { failIfUnchanged := false }) (disch := first | omega | (simp [wcs_len] <;> omega) | fail) only [go_sem, ↓reduceIte, reduceCtorEq, Nat.reduceEqDiff, Nat.reduceAdd, Nat.reduceMul, Nat.reduceSub, Nat.reduceLeDiff, Int.reduceEq, Int.reduceLT, Int.reduceLE, Int.reduceAdd, Int.reduceSub, Int.reduceMul, Int.reduceNeg, Int.reduceToNat]
    refine ⟨(i + 1, ws.set i ⟨1048576, 0⟩), ⟨by omega, ?_⟩, by dsimp only; omega, ?_⟩
    · rw [hws]
      apply List.ext_getElem?
      intro j
      simp only [List.getElem?_set, List.getElem?_append, List.getElem?_replicate, List.length_replicate, List.length_append]
      repeat' split
      all_goals (first | rfl | omega)
    · have : (ws[i]?.getD default).r = 0 := by
        rw [hws, List.getElem?_append_right (by simp)]
        have h0 : 0 < 51 - i := by omega
        simp [List.getElem?_replicate, h0]
      rw [this]
      simp (config := { failIfUnchanged := false }) (disch := first | omega | (simp [wcs_len] <;> omega) | fail) only [go_sem, ↓reduceIte, reduceCtorEq, Nat.reduceEqDiff, Nat.reduceAdd, Nat.reduceMul, Nat.reduceSub, Nat.reduceLeDiff, Int.reduceEq, Int.reduceLT, Int.reduceLE, Int.reduceAdd, Int.reduceSub, Int.reduceMul, Int.reduceNeg, Int.reduceToNat]
      simp
  · simp (config := { failIfUnchanged := false }) (disch := first | omega | (simp [wcs_len] <;> omega) | fail) only [go_sem, ↓reduceIte, reduceCtorEq, Nat.reduceEqDiff, Nat.reduceAdd, Nat.reduceMul, Nat.reduceSub, Nat.reduceLeDiff, Int.reduceEq, Int.reduceLT, Int.reduceLE, Int.reduceAdd, Int.reduceSub, Int.reduceMul, Int.reduceNeg, Int.reduceToNat]
    have hi2 : i = 51 := by omega
    subst hi2
    simp only [Nat.sub_self, List.replicate_zero, List.append_nil] at hws
    rw [hws]
    rfl

end Go.Proofs.Ytkkiipjfbebipaa

/- The digits of a cluster added to sums. -/
set_option linter.unusedSimpArgs false
set_option linter.unusedVariables false
set_option linter.unnecessarySimpa false
namespace Go.Proofs.Ytkkiipjfbebipaa
open Go Go.V

abbrev LM (b : Bk) (may carry : AV) : AV := .agg [.int b.base, .int b.places, .sl 1 (b.cords.map SS) .sh, SS b.top, may, carry]

def costL (s : Sp) (d : Int) : Int := max (max 0 (s.lo - d)) (d - s.hi)

def addN (d : Nat) (cost : Int) (s : List Wy) (out : List Wy) (n : Nat) : List Wy :=
  out.set (n + d) ⟨min (out[n + d]?.getD default).k ((s[n]?.getD default).k + cost), if cost = 0 then w64 ((out[n + d]?.getD default).r + (s[n]?.getD default).r) else (out[n + d]?.getD default).r⟩

def addD (d : Nat) (cost : Int) (s : List Wy) (out : List Wy) : List Wy := (List.range (51 - d)).foldl (addN d cost s) out

def moreL (base : Nat) (may : Nat → Bool) (cost : Nat → Int) (s : List Wy) : List Wy :=
  (List.range base).foldl (fun out d => if may d then addD d (cost d) s out else out) ((emptyL 0).set 0 ⟨1048576, 0⟩)

/-- Sums as they are at work. -/
structure Okw (s : List Wy) : Prop where
  len : s.length = 51
  k0 : ∀ i, i < 51 → 0 ≤ (s[i]?.getD default).k
  k1 : ∀ i, i < 51 → (s[i]?.getD default).k ≤ 1048576

theorem okw_empty {n : Nat} : Okw (emptyL n) := by
  have hl : (emptyL n).length = 51 := by simp [emptyL]
  refine ⟨hl, fun i hi => ?_, fun i hi => ?_⟩ <;>
  · simp only [emptyL, List.getElem?_set, List.getElem?_replicate, List.length_replicate]
    repeat' split
    all_goals (first | (simp; done) | omega)

theorem okw_set {s : List Wy} (h : Okw s) {i : Nat} {w : Wy} (h0 : 0 ≤ w.k) (h1 : w.k ≤ 1048576) : Okw (s.set i w) := by
  refine ⟨by simp [h.len], fun j hj => ?_, fun j hj => ?_⟩
  · rw [List.getElem?_set]
    have := h.k0 j hj
    repeat' split
    all_goals (first | (simpa using h0) | (simpa using this) | (have := h.len; omega))
  · rw [List.getElem?_set]
    have := h.k1 j hj
    repeat' split
    all_goals (first | (simpa using h1) | (simpa using this) | (have := h.len; omega))

theorem okw_addN {d : Nat} {cost : Int} {s out : List Wy} {n : Nat} (hs : Okw s) (ho : Okw out) (hc : 0 ≤ cost) (hn : n + d < 51) : Okw (addN d cost s out n) := by
  unfold addN
  have a := hs.k0 n (by omega)
  have b := ho.k0 (n + d) hn
  have c := ho.k1 (n + d) hn
  exact okw_set ho (by dsimp only; omega) (by dsimp only; omega)

theorem okw_addD {d : Nat} {cost : Int} {s out : List Wy} (hs : Okw s) (ho : Okw out) (hc : 0 ≤ cost) : ∀ m, m + d ≤ 51 → Okw ((List.range m).foldl (addN d cost s) out)
  | 0, _ => ho
  | m + 1, h => by
    rw [List.range_succ, List.foldl_append]
    exact okw_addN hs (okw_addD hs ho hc m (by omega)) hc (by omega)

theorem c106 (b : Bk) (g g2 : Nat) (caps caps2 : List AV) (may : Nat → Bool) (s : List Wy) (c p : Nat) (l : List Sp) (sp : Sp)
    (hb0 : 0 ≤ b.base) (hb1 : b.base ≤ 10) (hc : b.cords[c]? = some l) (hp : l[p]? = some sp) (h1 : 0 ≤ sp.lo ∧ sp.lo ≤ 1000) (h2 : 0 ≤ sp.hi ∧ sp.hi ≤ 1000)
    (hmay : ∀ d : Nat, d < b.base.toNat → Ctr Try.prog g ([.int c, .int p, .int d] ++ caps) (.bool (may d))) (hs : Okw s) :
    Ctr Try.prog 106 [LM b (.clo g [] caps) (.clo g2 [] caps2), WS s, .int c, .int p] (WS (moreL b.base.toNat may (fun d => costL sp d) s)) := by
  refine ctr_of_wp hmix Try.func106 m106 rfl ?_
  unfold v106
  have hsl := hs.len
  obtain ⟨B, hB⟩ : ∃ B : Nat, b.base = B := ⟨b.base.toNat, by omega⟩
  have hcl2 : c < b.cords.length := (List.getElem?_eq_some_iff.1 hc).1
  have hpl : p < l.length := (List.getElem?_eq_some_iff.1 hp).1
  rw [hB] at hb0 hb1 hmay ⊢
  simp only [Int.toNat_natCast] at hmay ⊢
  simp (config := { failIfUnchanged := false }) (disch := first | omega | (simp [wcs_len] <;> omega) | fail) only [go_sem, ↓reduceIte, reduceCtorEq, Nat.reduceEqDiff, Nat.reduceAdd, Nat.reduceMul, Nat.reduceSub, Nat.reduceLeDiff, Int.reduceEq, Int.reduceLT, Int.reduceLE, Int.reduceAdd, Int.reduceSub, Int.reduceMul, Int.reduceNeg, Int.reduceToNat]
  refine wcall (c105 0 (by omega)) ?_
  have he : (emptyL 0).length = 51 := okw_empty.len
  simp (config := { failIfUnchanged := false }) (disch := first | omega | (simp [wcs_len] <;> omega) | fail) only [go_sem, ↓reduceIte, reduceCtorEq, Nat.reduceEqDiff, Nat.reduceAdd, Nat.reduceMul, Nat.reduceSub, Nat.reduceLeDiff, Int.reduceEq, Int.reduceLT, Int.reduceLE, Int.reduceAdd, Int.reduceSub, Int.reduceMul, Int.reduceNeg, Int.reduceToNat]
  have hz : Okw ((emptyL 0).set 0 ⟨1048576, 0⟩) := okw_set okw_empty (by simp) (by simp)
  refine wp_loop' (Nat × List Wy) (fun x => ⟨[(2, .int c), (3, .int p), (4, .ptr 4 0), (5, .ptr 5 0), (8, .ptr 8 0), (9, .ptr 9 0), (20, .int B), (21, .int x.1)],
    [(9, ⟨wcs x.2, false⟩), (8, ⟨wcs (List.replicate 51 ⟨0, 0⟩), false⟩), (5, ⟨wcs s, false⟩), (4, ⟨[.int B, .int b.places, .sl 1 (b.cords.map SS) .sh, SS b.top, .clo g [] caps, .clo g2 [] caps2], false⟩)], [], none⟩)
    (fun x => x.1 ≤ B ∧ x.2 = (List.range x.1).foldl (fun out d => if may d then addD d (costL sp d) s out else out) ((emptyL 0).set 0 ⟨1048576, 0⟩) ∧ Okw x.2) (fun x => B - x.1) (0, (emptyL 0).set 0 ⟨1048576, 0⟩) ⟨by simp, rfl, hz⟩ ?_ ?_
  · simp (config := { failIfUnchanged := false }) (disch := first | omega | (simp [wcs_len] <;> omega) | fail) only [go_sem, ↓reduceIte, reduceCtorEq, Nat.reduceEqDiff, Nat.reduceAdd, Nat.reduceMul, Nat.reduceSub, Nat.reduceLeDiff, Int.reduceEq, Int.reduceLT, Int.reduceLE, Int.reduceAdd, Int.reduceSub, Int.reduceMul, Int.reduceNeg, Int.reduceToNat]
    exact ⟨⟨hB, rfl⟩, by rw [hB]⟩
  · rintro ⟨d, out⟩ ⟨hd, hout, hok⟩
    dsimp only at hd hout hok ⊢
    have hol := hok.len
    simp (config := { failIfUnchanged := false }) (disch := first | omega | (simp [wcs_len] <;> omega) | fail) only [go_sem, ↓reduceIte, reduceCtorEq, Nat.reduceEqDiff, Nat.reduceAdd, Nat.reduceMul, Nat.reduceSub, Nat.reduceLeDiff, Int.reduceEq, Int.reduceLT, Int.reduceLE, Int.reduceAdd, Int.reduceSub, Int.reduceMul, Int.reduceNeg, Int.reduceToNat]
    refine wcond_dec (fun h => ?_) (fun h => ?_)
    · simp (config := { failIfUnchanged := false }) (disch := first | omega | (simp [wcs_len] <;> omega) | fail) only [go_sem, ↓reduceIte, reduceCtorEq, Nat.reduceEqDiff, Nat.reduceAdd, Nat.reduceMul, Nat.reduceSub, Nat.reduceLeDiff, Int.reduceEq, Int.reduceLT, Int.reduceLE, Int.reduceAdd, Int.reduceSub, Int.reduceMul, Int.reduceNeg, Int.reduceToNat]
      refine wcall (hmay d (by omega)) ?_
      simp (config := { failIfUnchanged := false }) (disch := first | omega | (simp [wcs_len] <;> omega) | fail) only [go_sem, ↓reduceIte, reduceCtorEq, Nat.reduceEqDiff, Nat.reduceAdd, Nat.reduceMul, Nat.reduceSub, Nat.reduceLeDiff, Int.reduceEq, Int.reduceLT, Int.reduceLE, Int.reduceAdd, Int.reduceSub, Int.reduceMul, Int.reduceNeg, Int.reduceToNat]
      refine wcond_bool (fun hm => ?_) (fun hm => ?_)
      · simp (config := { failIfUnchanged := false }) (disch := first | omega | (simp [wcs_len] <;> omega) | fail) only [go_sem, ↓reduceIte, reduceCtorEq, Nat.reduceEqDiff, Nat.reduceAdd, Nat.reduceMul, Nat.reduceSub, Nat.reduceLeDiff, Int.reduceEq, Int.reduceLT, Int.reduceLE, Int.reduceAdd, Int.reduceSub, Int.reduceMul, Int.reduceNeg, Int.reduceToNat]
        refine ⟨(d + 1, out), ⟨by omega, ?_, hok⟩, by dsimp only; omega, ?_⟩
        · have hm2 : may d = false := by simpa using hm
          dsimp only
          rw [List.range_succ, List.foldl_append, hout]
          simp [hm2]
        · simp (config := { failIfUnchanged := false }) (disch := first | omega | (simp [wcs_len] <;> omega) | fail) only [go_sem, ↓reduceIte, reduceCtorEq, Nat.reduceEqDiff, Nat.reduceAdd, Nat.reduceMul, Nat.reduceSub, Nat.reduceLeDiff, Int.reduceEq, Int.reduceLT, Int.reduceLE, Int.reduceAdd, Int.reduceSub, Int.reduceMul, Int.reduceNeg, Int.reduceToNat]
          simp
      · have hm2 : may d = true := by simpa using hm
        have e1 : (b.cords[c]?.getD default) = l := by rw [hc]; rfl
        have e2 : (l[p]?.getD default) = sp := by rw [hp]; rfl
        simp (config := { failIfUnchanged := false }) (disch := first | omega | (simp [wcs_len] <;> omega) | fail) only [go_sem, ↓reduceIte, reduceCtorEq, Nat.reduceEqDiff, Nat.reduceAdd, Nat.reduceMul, Nat.reduceSub, Nat.reduceLeDiff, Int.reduceEq, Int.reduceLT, Int.reduceLE, Int.reduceAdd, Int.reduceSub, Int.reduceMul, Int.reduceNeg, Int.reduceToNat, e1, e2]
        refine wcall (c73 sp d h1 h2 (by omega)) ?_
        simp (config := { failIfUnchanged := false }) (disch := first | omega | (simp [wcs_len] <;> omega) | fail) only [go_sem, ↓reduceIte, reduceCtorEq, Nat.reduceEqDiff, Nat.reduceAdd, Nat.reduceMul, Nat.reduceSub, Nat.reduceLeDiff, Int.reduceEq, Int.reduceLT, Int.reduceLE, Int.reduceAdd, Int.reduceSub, Int.reduceMul, Int.reduceNeg, Int.reduceToNat]
        have hcost : 0 ≤ costL sp d := by unfold costL; omega
        have hcost2 : costL sp d ≤ 2000 := by unfold costL; omega
        rw [show max (max 0 (sp.lo - (d : Int))) ((d : Int) - sp.hi) = costL sp d from rfl]
        generalize hcd : costL sp d = co at hcost hcost2
        refine wp_loop' (Nat × List Wy) (fun x => ⟨[(2, .int c), (3, .int p), (4, .ptr 4 0), (5, .ptr 5 0), (8, .ptr 8 0), (9, .ptr 9 0), (10, .int d), (11, .int co), (20, .int B), (21, .int d), (44, .bsl 5 0 2 (51 - (d : Int)).toNat true), (45, .int ((51 - (d : Int)).toNat : Nat)), (46, .int x.1)],
          [(9, ⟨wcs x.2, false⟩), (8, ⟨wcs (List.replicate 51 ⟨0, 0⟩), false⟩), (5, ⟨wcs s, false⟩), (4, ⟨[.int B, .int b.places, .sl 1 (b.cords.map SS) .sh, SS b.top, .clo g [] caps, .clo g2 [] caps2], false⟩)], [], none⟩)
          (fun x => x.1 ≤ 51 - d ∧ x.2 = (List.range x.1).foldl (addN d co s) out ∧ Okw x.2) (fun x => 51 - x.1) (0, out) ⟨by simp, rfl, hok⟩ (by simp (config := { failIfUnchanged := false }) (disch := first | omega | (simp [wcs_len] <;> omega) | fail) only [go_sem, ↓reduceIte, reduceCtorEq, Nat.reduceEqDiff, Nat.reduceAdd, Nat.reduceMul, Nat.reduceSub, Nat.reduceLeDiff, Int.reduceEq, Int.reduceLT, Int.reduceLE, Int.reduceAdd, Int.reduceSub, Int.reduceMul, Int.reduceNeg, Int.reduceToNat]; simp) ?_
        rintro ⟨n, u⟩ ⟨hn, hu, huk⟩
        dsimp only at hn hu huk ⊢
        have hul := huk.len
        simp (config := { failIfUnchanged := false }) (disch := first | omega | (simp [wcs_len] <;> omega) | fail) only [go_sem, ↓reduceIte, reduceCtorEq, Nat.reduceEqDiff, Nat.reduceAdd, Nat.reduceMul, Nat.reduceSub, Nat.reduceLeDiff, Int.reduceEq, Int.reduceLT, Int.reduceLE, Int.reduceAdd, Int.reduceSub, Int.reduceMul, Int.reduceNeg, Int.reduceToNat]
        refine wcond_dec (fun hl => ?_) (fun hl => ?_)
        · have hnd : n + d < 51 := by omega
          simp (config := { failIfUnchanged := false }) (disch := first | omega | (simp [wcs_len] <;> omega) | fail) only [go_sem, ↓reduceIte, reduceCtorEq, Nat.reduceEqDiff, Nat.reduceAdd, Nat.reduceMul, Nat.reduceSub, Nat.reduceLeDiff, Int.reduceEq, Int.reduceLT, Int.reduceLE, Int.reduceAdd, Int.reduceSub, Int.reduceMul, Int.reduceNeg, Int.reduceToNat]
          have ku0 := huk.k0 (n + d) hnd
          have ku1 := huk.k1 (n + d) hnd
          have ks0 := hs.k0 n (by omega)
          have ks1 := hs.k1 n (by omega)
          refine wcond_dec (fun hco => ?_) (fun hco => ?_)
          · simp (config := { failIfUnchanged := false }) (disch := first | omega | (simp [wcs_len] <;> omega) | fail) only [go_sem, ↓reduceIte, reduceCtorEq, Nat.reduceEqDiff, Nat.reduceAdd, Nat.reduceMul, Nat.reduceSub, Nat.reduceLeDiff, Int.reduceEq, Int.reduceLT, Int.reduceLE, Int.reduceAdd, Int.reduceSub, Int.reduceMul, Int.reduceNeg, Int.reduceToNat]
            refine ⟨(n + 1, addN d co s u n), ⟨by omega, by rw [List.range_succ, List.foldl_append, ← hu]; rfl, okw_addN hs huk hcost hnd⟩, by dsimp only; omega, ?_⟩
            simp (config := { failIfUnchanged := false }) (disch := first | omega | (simp [wcs_len] <;> omega) | fail) only [go_sem, ↓reduceIte, reduceCtorEq, Nat.reduceEqDiff, Nat.reduceAdd, Nat.reduceMul, Nat.reduceSub, Nat.reduceLeDiff, Int.reduceEq, Int.reduceLT, Int.reduceLE, Int.reduceAdd, Int.reduceSub, Int.reduceMul, Int.reduceNeg, Int.reduceToNat]
            have eg : ∀ x : Wy, (u.set (n + d) x)[n + d]?.getD default = x := fun x => by simp [hul, hnd]
            simp only [addN, hco, if_true, eg, List.set_set]
            simp
          · simp (config := { failIfUnchanged := false }) (disch := first | omega | (simp [wcs_len] <;> omega) | fail) only [go_sem, ↓reduceIte, reduceCtorEq, Nat.reduceEqDiff, Nat.reduceAdd, Nat.reduceMul, Nat.reduceSub, Nat.reduceLeDiff, Int.reduceEq, Int.reduceLT, Int.reduceLE, Int.reduceAdd, Int.reduceSub, Int.reduceMul, Int.reduceNeg, Int.reduceToNat]
            refine ⟨(n + 1, addN d co s u n), ⟨by omega, by rw [List.range_succ, List.foldl_append, ← hu]; rfl, okw_addN hs huk hcost hnd⟩, by dsimp only; omega, ?_⟩
            simp (config := { failIfUnchanged := false }) (disch := first | omega | (simp [wcs_len] <;> omega) | fail) only [go_sem, ↓reduceIte, reduceCtorEq, Nat.reduceEqDiff, Nat.reduceAdd, Nat.reduceMul, Nat.reduceSub, Nat.reduceLeDiff, Int.reduceEq, Int.reduceLT, Int.reduceLE, Int.reduceAdd, Int.reduceSub, Int.reduceMul, Int.reduceNeg, Int.reduceToNat]
            simp [addN, hco]
        · simp (config := { failIfUnchanged := false }) (disch := first | omega | (simp [wcs_len] <;> omega) | fail) only [go_sem, ↓reduceIte, reduceCtorEq, Nat.reduceEqDiff, Nat.reduceAdd, Nat.reduceMul, Nat.reduceSub, Nat.reduceLeDiff, Int.reduceEq, Int.reduceLT, Int.reduceLE, Int.reduceAdd, Int.reduceSub, Int.reduceMul, Int.reduceNeg, Int.reduceToNat]
          have en : n = 51 - d := by omega
          refine ⟨(d + 1, u), ⟨by omega, ?_, huk⟩, by dsimp only; omega, ?_⟩
          · dsimp only
            rw [List.range_succ, List.foldl_append, ← hout, hu, en]
            simp only [List.foldl_cons, List.foldl_nil, hm2, if_true, hcd]
            rfl
          · simp (config := { failIfUnchanged := false }) (disch := first | omega | (simp [wcs_len] <;> omega) | fail) only [go_sem, ↓reduceIte, reduceCtorEq, Nat.reduceEqDiff, Nat.reduceAdd, Nat.reduceMul, Nat.reduceSub, Nat.reduceLeDiff, Int.reduceEq, Int.reduceLT, Int.reduceLE, Int.reduceAdd, Int.reduceSub, Int.reduceMul, Int.reduceNeg, Int.reduceToNat]
            simp
    · simp (config := { failIfUnchanged := false }) (disch := first | omega | (simp [wcs_len] <;> omega) | fail) only [go_sem, ↓reduceIte, reduceCtorEq, Nat.reduceEqDiff, Nat.reduceAdd, Nat.reduceMul, Nat.reduceSub, Nat.reduceLeDiff, Int.reduceEq, Int.reduceLT, Int.reduceLE, Int.reduceAdd, Int.reduceSub, Int.reduceMul, Int.reduceNeg, Int.reduceToNat]
      have ed : d = B := by omega
      rw [hout, ed]
      rfl

end Go.Proofs.Ytkkiipjfbebipaa

/- The way of a whole book. -/
set_option linter.unusedSimpArgs false
set_option linter.unusedVariables false
set_option linter.unnecessarySimpa false
namespace Go.Proofs.Ytkkiipjfbebipaa
open Go Go.V

/-- What is right of a valid book. -/
structure Val (b : Bk) : Prop where
  hb : 2 ≤ b.base ∧ b.base ≤ 10
  hp : 1 ≤ b.places ∧ b.places ≤ 4
  hc : b.cords.length ≤ 4
  cord : ∀ l ∈ b.cords, (l.length : Int) = b.places ∧ ∀ s ∈ l, 0 ≤ s.lo ∧ s.lo ≤ s.hi ∧ s.hi < b.base
  top : (b.top.length : Int) = b.places ∧ ∀ s ∈ b.top, 0 ≤ s.lo ∧ s.lo ≤ s.hi ∧ s.hi < b.base

def spAt (b : Bk) (c p : Nat) : Sp := (b.cords[c]?.getD default)[p]?.getD default
def topAt (b : Bk) (p : Nat) : Sp := b.top[p]?.getD default

def colL (b : Bk) (may : Nat → Nat → Nat → Bool) (p : Nat) (s : List Wy) (m : Nat) : List Wy :=
  (List.range m).foldl (fun s c => moreL b.base.toNat (may c p) (fun d => costL (spAt b c p) d) s) s

def topN (b : Bk) (may : Nat → Nat → Nat → Bool) (carry : Nat → Nat → Bool) (p : Nat) (s : List Wy) (now : List Wy) (n : Nat) : List Wy :=
  if may b.cords.length p (n % b.base.toNat) && carry p (n / b.base.toNat) then
    now.set (n / b.base.toNat) ⟨min (now[n / b.base.toNat]?.getD default).k ((s[n]?.getD default).k + costL (topAt b p) ((n % b.base.toNat : Nat) : Int)),
      if costL (topAt b p) ((n % b.base.toNat : Nat) : Int) = 0 then w64 ((now[n / b.base.toNat]?.getD default).r + (s[n]?.getD default).r) else (now[n / b.base.toNat]?.getD default).r⟩
  else now

def stepL (b : Bk) (may : Nat → Nat → Nat → Bool) (carry : Nat → Nat → Bool) (p : Nat) (now : List Wy) : List Wy :=
  (List.range 51).foldl (topN b may carry p (colL b may p now b.cords.length)) ((emptyL 0).set 0 ⟨1048576, 0⟩)

def solveF (b : Bk) (may : Nat → Nat → Nat → Bool) (carry : Nat → Nat → Bool) : Nat → List Wy → List Wy
  | 0, now => now
  | q + 1, now => solveF b may carry q (stepL b may carry q now)

def solveL (b : Bk) (may : Nat → Nat → Nat → Bool) (carry : Nat → Nat → Bool) : Wy := (solveF b may carry b.places.toNat (emptyL 0))[0]?.getD default

theorem okw_moreL {base : Nat} {may : Nat → Bool} {cost : Nat → Int} {s : List Wy} (hs : Okw s) (hb : base ≤ 10) (hc : ∀ d, 0 ≤ cost d) : Okw (moreL base may cost s) := by
  have : ∀ m, m ≤ base → Okw ((List.range m).foldl (fun out d => if may d then addD d (cost d) s out else out) ((emptyL 0).set 0 ⟨1048576, 0⟩)) := by
    intro m
    induction m with
    | zero => intro _; exact okw_set okw_empty (by simp) (by simp)
    | succ m ih =>
      intro hm
      rw [List.range_succ, List.foldl_append]
      simp only [List.foldl_cons, List.foldl_nil]
      split
      · exact okw_addD hs (ih (by omega)) (hc m) (51 - m) (by omega)
      · exact ih (by omega)
  exact this base (Nat.le_refl _)

theorem costL_nonneg (s : Sp) (d : Int) : 0 ≤ costL s d := by unfold costL; omega

theorem okw_colL {b : Bk} {may : Nat → Nat → Nat → Bool} {p : Nat} {s : List Wy} (hs : Okw s) (hb : b.base.toNat ≤ 10) : ∀ m, Okw (colL b may p s m)
  | 0 => hs
  | m + 1 => by
    unfold colL
    rw [List.range_succ, List.foldl_append]
    exact okw_moreL (okw_colL hs hb m) hb (fun d => costL_nonneg _ _)

theorem okw_topN {b : Bk} {may : Nat → Nat → Nat → Bool} {carry : Nat → Nat → Bool} {p : Nat} {s now : List Wy} {n : Nat} (hs : Okw s) (ho : Okw now) (hn : n < 51) : Okw (topN b may carry p s now n) := by
  unfold topN
  split
  · have hq : n / b.base.toNat ≤ n := Nat.div_le_self _ _
    have a := hs.k0 n hn
    have h0 := ho.k0 (n / b.base.toNat) (by omega)
    have h1 := ho.k1 (n / b.base.toNat) (by omega)
    have hc := costL_nonneg (topAt b p) ((n % b.base.toNat : Nat) : Int)
    exact okw_set ho (by dsimp only; omega) (by dsimp only; omega)
  · exact ho

theorem okw_stepL {b : Bk} {may : Nat → Nat → Nat → Bool} {carry : Nat → Nat → Bool} {p : Nat} {now : List Wy} (hs : Okw now) (hb : b.base.toNat ≤ 10) : ∀ m, m ≤ 51 → Okw ((List.range m).foldl (topN b may carry p (colL b may p now b.cords.length)) ((emptyL 0).set 0 ⟨1048576, 0⟩))
  | 0, _ => okw_set okw_empty (by simp) (by simp)
  | m + 1, h => by
    rw [List.range_succ, List.foldl_append]
    exact okw_topN (okw_colL hs hb _) (okw_stepL hs hb m (by omega)) (by omega)

theorem ag84 : aggOf Try.prog 84 = some true := by kernel_rfl
theorem sz84 : szOf Try.prog 84 = some 2 := by kernel_rfl

attribute [go_sem] ag84 sz84

theorem c71 (b : Bk) (hv : Val b) (g g2 : Nat) (caps caps2 : List AV) (may : Nat → Nat → Nat → Bool) (carry : Nat → Nat → Bool)
    (hmay : ∀ c p d : Nat, c ≤ b.cords.length → p < b.places.toNat → d < b.base.toNat → Ctr Try.prog g ([.int c, .int p, .int d] ++ caps) (.bool (may c p d)))
    (hcarry : ∀ p n : Nat, p < b.places.toNat → n ≤ 50 → Ctr Try.prog g2 ([.int p, .int n] ++ caps2) (.bool (carry p n))) :
    Ctr Try.prog 71 [LM b (.clo g [] caps) (.clo g2 [] caps2)] (.agg [.int (solveL b may carry).k, .int (solveL b may carry).r]) := by
  refine ctr_of_wp hmix Try.func71 m71 rfl ?_
  unfold v71
  obtain ⟨hb1, hb2⟩ := hv.hb
  obtain ⟨hp1, hp2⟩ := hv.hp
  have hc4 := hv.hc
  obtain ⟨B, hB⟩ : ∃ B : Nat, b.base = B := ⟨b.base.toNat, by omega⟩
  obtain ⟨PL, hPL⟩ : ∃ p : Nat, b.places = p := ⟨b.places.toNat, by omega⟩
  have hBn : b.base.toNat = B := by omega
  have hPn : b.places.toNat = PL := by omega
  have he : (emptyL 0).length = 51 := okw_empty.len
  simp (config := { failIfUnchanged := false }) (disch := first | omega | (simp [wcs_len] <;> omega) | fail) only [go_sem, ↓reduceIte, reduceCtorEq, Nat.reduceEqDiff, Nat.reduceAdd, Nat.reduceMul, Nat.reduceSub, Nat.reduceLeDiff, Int.reduceEq, Int.reduceLT, Int.reduceLE, Int.reduceAdd, Int.reduceSub, Int.reduceMul, Int.reduceNeg, Int.reduceToNat]
  refine wcall (c105 0 (by omega)) ?_
  simp (config := { failIfUnchanged := false }) (disch := first | omega | (simp [wcs_len] <;> omega) | fail) only [go_sem, ↓reduceIte, reduceCtorEq, Nat.reduceEqDiff, Nat.reduceAdd, Nat.reduceMul, Nat.reduceSub, Nat.reduceLeDiff, Int.reduceEq, Int.reduceLT, Int.reduceLE, Int.reduceAdd, Int.reduceSub, Int.reduceMul, Int.reduceNeg, Int.reduceToNat]
  refine wp_loop' (Nat × List Wy) (fun x => ⟨[(1, .ptr 1 0), (2, .ptr 2 0), (3, .ptr 3 0), (4, .int ((x.1 : Int) - 1))],
    [(3, ⟨wcs x.2, false⟩), (2, ⟨[.int 0, .int 0], false⟩), (1, ⟨[.int b.base, .int b.places, .sl 1 (b.cords.map SS) .sh, SS b.top, .clo g [] caps, .clo g2 [] caps2], false⟩)], [], none⟩)
    (fun x => x.1 ≤ PL ∧ solveF b may carry x.1 x.2 = solveF b may carry PL (emptyL 0) ∧ Okw x.2) (fun x => x.1) (PL, emptyL 0) ⟨by simp, rfl, okw_empty⟩ ?_ ?_
  · simp (config := { failIfUnchanged := false }) (disch := first | omega | (simp [wcs_len] <;> omega) | fail) only [go_sem, ↓reduceIte, reduceCtorEq, Nat.reduceEqDiff, Nat.reduceAdd, Nat.reduceMul, Nat.reduceSub, Nat.reduceLeDiff, Int.reduceEq, Int.reduceLT, Int.reduceLE, Int.reduceAdd, Int.reduceSub, Int.reduceMul, Int.reduceNeg, Int.reduceToNat]
    omega
  · rintro ⟨q, now⟩ ⟨hq, hnow, hok⟩
    dsimp only at hq hnow hok ⊢
    have hnl := hok.len
    simp (config := { failIfUnchanged := false }) (disch := first | omega | (simp [wcs_len] <;> omega) | fail) only [go_sem, ↓reduceIte, reduceCtorEq, Nat.reduceEqDiff, Nat.reduceAdd, Nat.reduceMul, Nat.reduceSub, Nat.reduceLeDiff, Int.reduceEq, Int.reduceLT, Int.reduceLE, Int.reduceAdd, Int.reduceSub, Int.reduceMul, Int.reduceNeg, Int.reduceToNat]
    refine wcond_dec (fun h => ?_) (fun h => ?_)
    · obtain ⟨p, rfl⟩ : ∃ p, q = p + 1 := ⟨q - 1, by omega⟩
      rw [show ((p + 1 : Nat) : Int) - 1 = (p : Int) by omega]
      simp (config := { failIfUnchanged := false }) (disch := first | omega | (simp [wcs_len] <;> omega) | fail) only [go_sem, ↓reduceIte, reduceCtorEq, Nat.reduceEqDiff, Nat.reduceAdd, Nat.reduceMul, Nat.reduceSub, Nat.reduceLeDiff, Int.reduceEq, Int.reduceLT, Int.reduceLE, Int.reduceAdd, Int.reduceSub, Int.reduceMul, Int.reduceNeg, Int.reduceToNat]
      refine wp_loop' (Nat × List Wy) (fun x => ⟨[(1, .ptr 1 0), (2, .ptr 2 0), (3, .ptr 3 0), (4, .int p), (5, .ptr 5 0), (26, .int b.cords.length), (27, .int x.1)],
        [(5, ⟨wcs x.2, false⟩), (3, ⟨wcs now, false⟩), (2, ⟨[.int 0, .int 0], false⟩), (1, ⟨[.int b.base, .int b.places, .sl 1 (b.cords.map SS) .sh, SS b.top, .clo g [] caps, .clo g2 [] caps2], false⟩)], [], none⟩)
        (fun x => x.1 ≤ b.cords.length ∧ x.2 = colL b may p now x.1 ∧ Okw x.2) (fun x => b.cords.length - x.1) (0, now) ⟨by simp, rfl, hok⟩ (by simp (config := { failIfUnchanged := false }) (disch := first | omega | (simp [wcs_len] <;> omega) | fail) only [go_sem, ↓reduceIte, reduceCtorEq, Nat.reduceEqDiff, Nat.reduceAdd, Nat.reduceMul, Nat.reduceSub, Nat.reduceLeDiff, Int.reduceEq, Int.reduceLT, Int.reduceLE, Int.reduceAdd, Int.reduceSub, Int.reduceMul, Int.reduceNeg, Int.reduceToNat]; simp) ?_
      rintro ⟨c, s⟩ ⟨hc, hs, hsk⟩
      dsimp only at hc hs hsk ⊢
      have hsl := hsk.len
      simp (config := { failIfUnchanged := false }) (disch := first | omega | (simp [wcs_len] <;> omega) | fail) only [go_sem, ↓reduceIte, reduceCtorEq, Nat.reduceEqDiff, Nat.reduceAdd, Nat.reduceMul, Nat.reduceSub, Nat.reduceLeDiff, Int.reduceEq, Int.reduceLT, Int.reduceLE, Int.reduceAdd, Int.reduceSub, Int.reduceMul, Int.reduceNeg, Int.reduceToNat]
      refine wcond_dec (fun hl => ?_) (fun hl => ?_)
      · simp (config := { failIfUnchanged := false }) (disch := first | omega | (simp [wcs_len] <;> omega) | fail) only [go_sem, ↓reduceIte, reduceCtorEq, Nat.reduceEqDiff, Nat.reduceAdd, Nat.reduceMul, Nat.reduceSub, Nat.reduceLeDiff, Int.reduceEq, Int.reduceLT, Int.reduceLE, Int.reduceAdd, Int.reduceSub, Int.reduceMul, Int.reduceNeg, Int.reduceToNat]
        have hcl : c < b.cords.length := by omega
        have hcd := hv.cord b.cords[c] (List.getElem_mem hcl)
        have hpl : p < b.cords[c].length := by omega
        have hsp := hcd.2 _ (List.getElem_mem hpl)
        have esp : spAt b c p = b.cords[c][p] := by simp [spAt, hcl, hpl]
        refine wcall (c106 b g g2 caps caps2 (may c p) s c p b.cords[c] b.cords[c][p] (by omega) (by omega) (List.getElem?_eq_getElem hcl) (List.getElem?_eq_getElem hpl) (by omega) (by omega) (fun d hd => hmay c p d (by omega) (by omega) (by omega)) hsk) ?_
        have hml : (moreL b.base.toNat (may c p) (fun d => costL b.cords[c][p] d) s).length = 51 := (okw_moreL hsk (by omega) (fun d => costL_nonneg _ _)).len
        simp (config := { failIfUnchanged := false }) (disch := first | omega | (simp [wcs_len] <;> omega) | fail) only [go_sem, ↓reduceIte, reduceCtorEq, Nat.reduceEqDiff, Nat.reduceAdd, Nat.reduceMul, Nat.reduceSub, Nat.reduceLeDiff, Int.reduceEq, Int.reduceLT, Int.reduceLE, Int.reduceAdd, Int.reduceSub, Int.reduceMul, Int.reduceNeg, Int.reduceToNat]
        refine ⟨(c + 1, colL b may p now (c + 1)), ⟨by omega, rfl, okw_colL hok (by omega) _⟩, by dsimp only; omega, ?_⟩
        have ec : colL b may p now (c + 1) = moreL b.base.toNat (may c p) (fun d => costL b.cords[c][p] d) s := by
          unfold colL at hs ⊢
          rw [List.range_succ, List.foldl_append, ← hs]
          simp only [List.foldl_cons, List.foldl_nil, esp]
        rw [ec]
        simp (config := { failIfUnchanged := false }) (disch := first | omega | (simp [wcs_len] <;> omega) | fail) only [go_sem, ↓reduceIte, reduceCtorEq, Nat.reduceEqDiff, Nat.reduceAdd, Nat.reduceMul, Nat.reduceSub, Nat.reduceLeDiff, Int.reduceEq, Int.reduceLT, Int.reduceLE, Int.reduceAdd, Int.reduceSub, Int.reduceMul, Int.reduceNeg, Int.reduceToNat]
        simp
      · simp (config := { failIfUnchanged := false }) (disch := first | omega | (simp [wcs_len] <;> omega) | fail) only [go_sem, ↓reduceIte, reduceCtorEq, Nat.reduceEqDiff, Nat.reduceAdd, Nat.reduceMul, Nat.reduceSub, Nat.reduceLeDiff, Int.reduceEq, Int.reduceLT, Int.reduceLE, Int.reduceAdd, Int.reduceSub, Int.reduceMul, Int.reduceNeg, Int.reduceToNat]
        refine wcall (c105 0 (by omega)) ?_
        simp (config := { failIfUnchanged := false }) (disch := first | omega | (simp [wcs_len] <;> omega) | fail) only [go_sem, ↓reduceIte, reduceCtorEq, Nat.reduceEqDiff, Nat.reduceAdd, Nat.reduceMul, Nat.reduceSub, Nat.reduceLeDiff, Int.reduceEq, Int.reduceLT, Int.reduceLE, Int.reduceAdd, Int.reduceSub, Int.reduceMul, Int.reduceNeg, Int.reduceToNat]
        have ecl : c = b.cords.length := by omega
        rw [ecl] at hs
        have em : ∀ n : Nat, Int.tmod (n : Int) b.base = ((n % b.base.toNat : Nat) : Int) := fun n => by rw [hBn, hB]; rfl
        have eq : ∀ n : Nat, Int.tdiv (n : Int) b.base = ((n / b.base.toNat : Nat) : Int) := fun n => by rw [hBn, hB]; rfl
        refine wp_loop' (Nat × List Wy) (fun x => ⟨[(1, .ptr 1 0), (2, .ptr 2 0), (3, .ptr 3 0), (4, .int p), (39, .agg (wcs s)), (40, .int x.1)],
          [(3, ⟨wcs x.2, false⟩), (2, ⟨[.int 0, .int 0], false⟩), (1, ⟨[.int b.base, .int b.places, .sl 1 (b.cords.map SS) .sh, SS b.top, .clo g [] caps, .clo g2 [] caps2], false⟩)], [], none⟩)
          (fun x => x.1 ≤ 51 ∧ x.2 = (List.range x.1).foldl (topN b may carry p s) ((emptyL 0).set 0 ⟨1048576, 0⟩)) (fun x => 51 - x.1) (0, (emptyL 0).set 0 ⟨1048576, 0⟩) ⟨by simp, rfl⟩ (by simp (config := { failIfUnchanged := false }) (disch := first | omega | (simp [wcs_len] <;> omega) | fail) only [go_sem, ↓reduceIte, reduceCtorEq, Nat.reduceEqDiff, Nat.reduceAdd, Nat.reduceMul, Nat.reduceSub, Nat.reduceLeDiff, Int.reduceEq, Int.reduceLT, Int.reduceLE, Int.reduceAdd, Int.reduceSub, Int.reduceMul, Int.reduceNeg, Int.reduceToNat]; simp) ?_
        rintro ⟨n, u⟩ ⟨hn, hu⟩
        dsimp only at hn hu ⊢
        have huk : Okw u := by
          rw [hu, hs]
          exact okw_stepL hok (by omega) n hn
        have hul := huk.len
        simp (config := { failIfUnchanged := false }) (disch := first | omega | (simp [wcs_len] <;> omega) | fail) only [go_sem, ↓reduceIte, reduceCtorEq, Nat.reduceEqDiff, Nat.reduceAdd, Nat.reduceMul, Nat.reduceSub, Nat.reduceLeDiff, Int.reduceEq, Int.reduceLT, Int.reduceLE, Int.reduceAdd, Int.reduceSub, Int.reduceMul, Int.reduceNeg, Int.reduceToNat]
        refine wcond_dec (fun hl2 => ?_) (fun hl2 => ?_)
        · have hq1 : n / b.base.toNat ≤ n := Nat.div_le_self _ _
          have hq2 : n % b.base.toNat < b.base.toNat := Nat.mod_lt _ (by omega)
          have hn51 : n < 51 := by omega
          obtain ⟨dg, hdg⟩ : ∃ dg, n % b.base.toNat = dg := ⟨_, rfl⟩
          obtain ⟨ca, hca⟩ : ∃ ca, n / b.base.toNat = ca := ⟨_, rfl⟩
          rw [hdg] at hq2
          rw [hca] at hq1
          simp (config := { failIfUnchanged := false }) (disch := first | omega | (simp [wcs_len] <;> omega) | fail) only [go_sem, ↓reduceIte, reduceCtorEq, Nat.reduceEqDiff, Nat.reduceAdd, Nat.reduceMul, Nat.reduceSub, Nat.reduceLeDiff, Int.reduceEq, Int.reduceLT, Int.reduceLE, Int.reduceAdd, Int.reduceSub, Int.reduceMul, Int.reduceNeg, Int.reduceToNat, em, eq, hdg, hca]
          refine wcall (hmay b.cords.length p dg (by omega) (by omega) (by omega)) ?_
          simp (config := { failIfUnchanged := false }) (disch := first | omega | (simp [wcs_len] <;> omega) | fail) only [go_sem, ↓reduceIte, reduceCtorEq, Nat.reduceEqDiff, Nat.reduceAdd, Nat.reduceMul, Nat.reduceSub, Nat.reduceLeDiff, Int.reduceEq, Int.reduceLT, Int.reduceLE, Int.reduceAdd, Int.reduceSub, Int.reduceMul, Int.reduceNeg, Int.reduceToNat]
          have hnext : u = (List.range n).foldl (topN b may carry p s) ((emptyL 0).set 0 ⟨1048576, 0⟩) → topN b may carry p s u n = (List.range (n + 1)).foldl (topN b may carry p s) ((emptyL 0).set 0 ⟨1048576, 0⟩) := by
            intro hu
            rw [List.range_succ, List.foldl_append, ← hu]
            rfl
          refine WGd_bool (fun hm => ?_) (fun hm => ?_)
          · simp (config := { failIfUnchanged := false }) (disch := first | omega | (simp [wcs_len] <;> omega) | fail) only [go_sem, ↓reduceIte, reduceCtorEq, Nat.reduceEqDiff, Nat.reduceAdd, Nat.reduceMul, Nat.reduceSub, Nat.reduceLeDiff, Int.reduceEq, Int.reduceLT, Int.reduceLE, Int.reduceAdd, Int.reduceSub, Int.reduceMul, Int.reduceNeg, Int.reduceToNat, hm]
            refine wcall (hcarry p ca (by omega) (by omega)) ?_
            simp (config := { failIfUnchanged := false }) (disch := first | omega | (simp [wcs_len] <;> omega) | fail) only [go_sem, ↓reduceIte, reduceCtorEq, Nat.reduceEqDiff, Nat.reduceAdd, Nat.reduceMul, Nat.reduceSub, Nat.reduceLeDiff, Int.reduceEq, Int.reduceLT, Int.reduceLE, Int.reduceAdd, Int.reduceSub, Int.reduceMul, Int.reduceNeg, Int.reduceToNat]
            refine wcond_bool (fun hk => ?_) (fun hk => ?_)
            · simp (config := { failIfUnchanged := false }) (disch := first | omega | (simp [wcs_len] <;> omega) | fail) only [go_sem, ↓reduceIte, reduceCtorEq, Nat.reduceEqDiff, Nat.reduceAdd, Nat.reduceMul, Nat.reduceSub, Nat.reduceLeDiff, Int.reduceEq, Int.reduceLT, Int.reduceLE, Int.reduceAdd, Int.reduceSub, Int.reduceMul, Int.reduceNeg, Int.reduceToNat]
              have et : topN b may carry p s u n = u := by
                have hk2 : carry p ca = false := by simpa using hk
                simp [topN, hdg, hca, hk2]
              refine ⟨(n + 1, topN b may carry p s u n), ⟨by omega, hnext hu⟩, by dsimp only; omega, ?_⟩
              rw [et]
              simp (config := { failIfUnchanged := false }) (disch := first | omega | (simp [wcs_len] <;> omega) | fail) only [go_sem, ↓reduceIte, reduceCtorEq, Nat.reduceEqDiff, Nat.reduceAdd, Nat.reduceMul, Nat.reduceSub, Nat.reduceLeDiff, Int.reduceEq, Int.reduceLT, Int.reduceLE, Int.reduceAdd, Int.reduceSub, Int.reduceMul, Int.reduceNeg, Int.reduceToNat]
              simp
            · have hm2 : may b.cords.length p dg = true := by simpa using hm
              have hk2 : carry p ca = true := by simpa using hk
              have hpl : p < b.top.length := by have := hv.top.1; omega
              have htp := hv.top.2 _ (List.getElem_mem hpl)
              have etp : topAt b p = b.top[p] := by simp [topAt, hpl]
              have etp2 : b.top[p]?.getD default = b.top[p] := by simp [hpl]
              simp (config := { failIfUnchanged := false }) (disch := first | omega | (simp [wcs_len] <;> omega) | fail) only [go_sem, ↓reduceIte, reduceCtorEq, Nat.reduceEqDiff, Nat.reduceAdd, Nat.reduceMul, Nat.reduceSub, Nat.reduceLeDiff, Int.reduceEq, Int.reduceLT, Int.reduceLE, Int.reduceAdd, Int.reduceSub, Int.reduceMul, Int.reduceNeg, Int.reduceToNat, etp2]
              refine wcall (c73 b.top[p] dg (by omega) (by omega) (by omega)) ?_
              simp (config := { failIfUnchanged := false }) (disch := first | omega | (simp [wcs_len] <;> omega) | fail) only [go_sem, ↓reduceIte, reduceCtorEq, Nat.reduceEqDiff, Nat.reduceAdd, Nat.reduceMul, Nat.reduceSub, Nat.reduceLeDiff, Int.reduceEq, Int.reduceLT, Int.reduceLE, Int.reduceAdd, Int.reduceSub, Int.reduceMul, Int.reduceNeg, Int.reduceToNat]
              rw [show max (max 0 (b.top[p].lo - (dg : Int))) ((dg : Int) - b.top[p].hi) = costL b.top[p] dg from rfl]
              have hcost := costL_nonneg b.top[p] dg
              have hcost2 : costL b.top[p] dg ≤ 2000 := by unfold costL; omega
              have ku0 := huk.k0 ca (by omega)
              have ku1 := huk.k1 ca (by omega)
              have ks0 := hsk.k0 n (by omega)
              have ks1 := hsk.k1 n (by omega)
              generalize hco : costL b.top[p] dg = co at hcost hcost2
              simp (config := { failIfUnchanged := false }) (disch := first | omega | (simp [wcs_len] <;> omega) | fail) only [go_sem, ↓reduceIte, reduceCtorEq, Nat.reduceEqDiff, Nat.reduceAdd, Nat.reduceMul, Nat.reduceSub, Nat.reduceLeDiff, Int.reduceEq, Int.reduceLT, Int.reduceLE, Int.reduceAdd, Int.reduceSub, Int.reduceMul, Int.reduceNeg, Int.reduceToNat]
              have hca51 : ca < 51 := by omega
              refine wcond_dec (fun h0 => ?_) (fun h0 => ?_)
              · simp (config := { failIfUnchanged := false }) (disch := first | omega | (simp [wcs_len] <;> omega) | fail) only [go_sem, ↓reduceIte, reduceCtorEq, Nat.reduceEqDiff, Nat.reduceAdd, Nat.reduceMul, Nat.reduceSub, Nat.reduceLeDiff, Int.reduceEq, Int.reduceLT, Int.reduceLE, Int.reduceAdd, Int.reduceSub, Int.reduceMul, Int.reduceNeg, Int.reduceToNat]
                refine ⟨(n + 1, topN b may carry p s u n), ⟨by omega, hnext hu⟩, by dsimp only; omega, ?_⟩
                simp (config := { failIfUnchanged := false }) (disch := first | omega | (simp [wcs_len] <;> omega) | fail) only [go_sem, ↓reduceIte, reduceCtorEq, Nat.reduceEqDiff, Nat.reduceAdd, Nat.reduceMul, Nat.reduceSub, Nat.reduceLeDiff, Int.reduceEq, Int.reduceLT, Int.reduceLE, Int.reduceAdd, Int.reduceSub, Int.reduceMul, Int.reduceNeg, Int.reduceToNat]
                have eg : ∀ x : Wy, (u.set ca x)[ca]?.getD default = x := fun x => by simp [hul, hca51]
                simp only [topN, hdg, hca, hm2, hk2, etp, hco, h0, Bool.and_self, if_true, eg, List.set_set]
                simp
              · simp (config := { failIfUnchanged := false }) (disch := first | omega | (simp [wcs_len] <;> omega) | fail) only [go_sem, ↓reduceIte, reduceCtorEq, Nat.reduceEqDiff, Nat.reduceAdd, Nat.reduceMul, Nat.reduceSub, Nat.reduceLeDiff, Int.reduceEq, Int.reduceLT, Int.reduceLE, Int.reduceAdd, Int.reduceSub, Int.reduceMul, Int.reduceNeg, Int.reduceToNat]
                refine ⟨(n + 1, topN b may carry p s u n), ⟨by omega, hnext hu⟩, by dsimp only; omega, ?_⟩
                simp (config := { failIfUnchanged := false }) (disch := first | omega | (simp [wcs_len] <;> omega) | fail) only [go_sem, ↓reduceIte, reduceCtorEq, Nat.reduceEqDiff, Nat.reduceAdd, Nat.reduceMul, Nat.reduceSub, Nat.reduceLeDiff, Int.reduceEq, Int.reduceLT, Int.reduceLE, Int.reduceAdd, Int.reduceSub, Int.reduceMul, Int.reduceNeg, Int.reduceToNat]
                simp [topN, hdg, hca, hm2, hk2, etp, hco, h0]
          · simp (config := { failIfUnchanged := false }) (disch := first | omega | (simp [wcs_len] <;> omega) | fail) only [go_sem, ↓reduceIte, reduceCtorEq, Nat.reduceEqDiff, Nat.reduceAdd, Nat.reduceMul, Nat.reduceSub, Nat.reduceLeDiff, Int.reduceEq, Int.reduceLT, Int.reduceLE, Int.reduceAdd, Int.reduceSub, Int.reduceMul, Int.reduceNeg, Int.reduceToNat, hm]
            have hm2 : may b.cords.length p dg = false := by simpa using hm
            have et : topN b may carry p s u n = u := by simp [topN, hdg, hca, hm2]
            refine ⟨(n + 1, topN b may carry p s u n), ⟨by omega, hnext hu⟩, by dsimp only; omega, ?_⟩
            rw [et]
            simp (config := { failIfUnchanged := false }) (disch := first | omega | (simp [wcs_len] <;> omega) | fail) only [go_sem, ↓reduceIte, reduceCtorEq, Nat.reduceEqDiff, Nat.reduceAdd, Nat.reduceMul, Nat.reduceSub, Nat.reduceLeDiff, Int.reduceEq, Int.reduceLT, Int.reduceLE, Int.reduceAdd, Int.reduceSub, Int.reduceMul, Int.reduceNeg, Int.reduceToNat]
            simp
        · simp (config := { failIfUnchanged := false }) (disch := first | omega | (simp [wcs_len] <;> omega) | fail) only [go_sem, ↓reduceIte, reduceCtorEq, Nat.reduceEqDiff, Nat.reduceAdd, Nat.reduceMul, Nat.reduceSub, Nat.reduceLeDiff, Int.reduceEq, Int.reduceLT, Int.reduceLE, Int.reduceAdd, Int.reduceSub, Int.reduceMul, Int.reduceNeg, Int.reduceToNat]
          have en : n = 51 := by omega
          rw [en, hs] at hu
          refine ⟨(p, u), ⟨by omega, ?_, huk⟩, by dsimp only; omega, ?_⟩
          · dsimp only
            rw [← hnow, hu]
            rfl
          · simp (config := { failIfUnchanged := false }) (disch := first | omega | (simp [wcs_len] <;> omega) | fail) only [go_sem, ↓reduceIte, reduceCtorEq, Nat.reduceEqDiff, Nat.reduceAdd, Nat.reduceMul, Nat.reduceSub, Nat.reduceLeDiff, Int.reduceEq, Int.reduceLT, Int.reduceLE, Int.reduceAdd, Int.reduceSub, Int.reduceMul, Int.reduceNeg, Int.reduceToNat]
    · simp (config := { failIfUnchanged := false }) (disch := first | omega | (simp [wcs_len] <;> omega) | fail) only [go_sem, ↓reduceIte, reduceCtorEq, Nat.reduceEqDiff, Nat.reduceAdd, Nat.reduceMul, Nat.reduceSub, Nat.reduceLeDiff, Int.reduceEq, Int.reduceLT, Int.reduceLE, Int.reduceAdd, Int.reduceSub, Int.reduceMul, Int.reduceNeg, Int.reduceToNat]
      have e0 : q = 0 := by omega
      subst e0
      have : solveL b may carry = now[0]?.getD default := by
        unfold solveL
        rw [hPn, ← hnow]
        rfl
      rw [this]

end Go.Proofs.Ytkkiipjfbebipaa

/- Looms; Many and Retie. -/
set_option linter.unusedSimpArgs false
set_option linter.unusedVariables false
set_option linter.unnecessarySimpa false
namespace Go.Proofs.Ytkkiipjfbebipaa
open Go Go.V

theorem c100 (c p d : Int) : Ctr Try.prog 100 [.int c, .int p, .int d] (.bool true) := by
  refine ctr_of_wp hmix Try.func100 m100 rfl ?_
  unfold v100
  simp (config := { failIfUnchanged := false }) (disch := first | omega | (simp [wcs_len] <;> omega) | fail) only [go_sem, ↓reduceIte, reduceCtorEq, Nat.reduceEqDiff, Nat.reduceAdd, Nat.reduceMul, Nat.reduceSub, Nat.reduceLeDiff, Int.reduceEq, Int.reduceLT, Int.reduceLE, Int.reduceAdd, Int.reduceSub, Int.reduceMul, Int.reduceNeg, Int.reduceToNat]

theorem c101 (c p : Int) : Ctr Try.prog 101 [.int c, .int p] (.bool true) := by
  refine ctr_of_wp hmix Try.func101 m101 rfl ?_
  unfold v101
  simp (config := { failIfUnchanged := false }) (disch := first | omega | (simp [wcs_len] <;> omega) | fail) only [go_sem, ↓reduceIte, reduceCtorEq, Nat.reduceEqDiff, Nat.reduceAdd, Nat.reduceMul, Nat.reduceSub, Nat.reduceLeDiff, Int.reduceEq, Int.reduceLT, Int.reduceLE, Int.reduceAdd, Int.reduceSub, Int.reduceMul, Int.reduceNeg, Int.reduceToNat]

theorem ag74 : aggOf Try.prog 74 = some true := by kernel_rfl
theorem sz74 : szOf Try.prog 74 = some 6 := by kernel_rfl

attribute [go_sem] ag74 sz74

theorem c64 (b : Bk) : Ctr Try.prog 64 [KB b] (LM b (.clo 100 [] []) (.clo 101 [] [])) := by
  refine ctr_of_wp hmix Try.func64 m64 rfl ?_
  unfold v64
  simp (config := { failIfUnchanged := false }) (disch := first | omega | (simp [wcs_len] <;> omega) | fail) only [go_sem, ↓reduceIte, reduceCtorEq, Nat.reduceEqDiff, Nat.reduceAdd, Nat.reduceMul, Nat.reduceSub, Nat.reduceLeDiff, Int.reduceEq, Int.reduceLT, Int.reduceLE, Int.reduceAdd, Int.reduceSub, Int.reduceMul, Int.reduceNeg, Int.reduceToNat]

def onlyF (may : Nat → Nat → Nat → Bool) (cord place digit : Nat) (c p d : Nat) : Bool := may c p d && (decide (¬ c = cord) || (decide (¬ p = place) || decide (d = digit)))

abbrev capsO (g : Nat) (caps : List AV) (cord place digit : Nat) : List AV :=
  [.ref 1 [.agg [.clo g [] caps]] 0 0, .ref 1 [.agg [.int cord]] 0 0, .ref 1 [.agg [.int place]] 0 0, .ref 1 [.agg [.int digit]] 0 0]

theorem c108 (g : Nat) (caps : List AV) (may : Nat → Nat → Nat → Bool) (cord place digit c p d : Nat)
    (hmay : Ctr Try.prog g ([.int c, .int p, .int d] ++ caps) (.bool (may c p d))) :
    Ctr Try.prog 108 ([.int c, .int p, .int d] ++ capsO g caps cord place digit) (.bool (onlyF may cord place digit c p d)) := by
  refine ctr_of_wp hmix Try.func108 m108 rfl ?_
  unfold v108
  simp (config := { failIfUnchanged := false }) (disch := first | omega | (simp [wcs_len] <;> omega) | fail) only [go_sem, ↓reduceIte, reduceCtorEq, Nat.reduceEqDiff, Nat.reduceAdd, Nat.reduceMul, Nat.reduceSub, Nat.reduceLeDiff, Int.reduceEq, Int.reduceLT, Int.reduceLE, Int.reduceAdd, Int.reduceSub, Int.reduceMul, Int.reduceNeg, Int.reduceToNat]
  refine wcall hmay ?_
  simp (config := { failIfUnchanged := false }) (disch := first | omega | (simp [wcs_len] <;> omega) | fail) only [go_sem, ↓reduceIte, reduceCtorEq, Nat.reduceEqDiff, Nat.reduceAdd, Nat.reduceMul, Nat.reduceSub, Nat.reduceLeDiff, Int.reduceEq, Int.reduceLT, Int.reduceLE, Int.reduceAdd, Int.reduceSub, Int.reduceMul, Int.reduceNeg, Int.reduceToNat]
  refine WGd_bool (fun h1 => ?_) (fun h1 => ?_)
  · simp (config := { failIfUnchanged := false }) (disch := first | omega | (simp [wcs_len] <;> omega) | fail) only [go_sem, ↓reduceIte, reduceCtorEq, Nat.reduceEqDiff, Nat.reduceAdd, Nat.reduceMul, Nat.reduceSub, Nat.reduceLeDiff, Int.reduceEq, Int.reduceLT, Int.reduceLE, Int.reduceAdd, Int.reduceSub, Int.reduceMul, Int.reduceNeg, Int.reduceToNat, h1]
    refine WGd_bool (fun h2 => ?_) (fun h2 => ?_)
    · simp (config := { failIfUnchanged := false }) (disch := first | omega | (simp [wcs_len] <;> omega) | fail) only [go_sem, ↓reduceIte, reduceCtorEq, Nat.reduceEqDiff, Nat.reduceAdd, Nat.reduceMul, Nat.reduceSub, Nat.reduceLeDiff, Int.reduceEq, Int.reduceLT, Int.reduceLE, Int.reduceAdd, Int.reduceSub, Int.reduceMul, Int.reduceNeg, Int.reduceToNat, h1, h2]
      refine WGd_bool (fun h3 => ?_) (fun h3 => ?_)
      · simp (config := { failIfUnchanged := false }) (disch := first | omega | (simp [wcs_len] <;> omega) | fail) only [go_sem, ↓reduceIte, reduceCtorEq, Nat.reduceEqDiff, Nat.reduceAdd, Nat.reduceMul, Nat.reduceSub, Nat.reduceLeDiff, Int.reduceEq, Int.reduceLT, Int.reduceLE, Int.reduceAdd, Int.reduceSub, Int.reduceMul, Int.reduceNeg, Int.reduceToNat, h1, h2, h3]
        simp only [decide_eq_false_iff_not, Decidable.not_not] at h2 h3
        have e2 : c = cord := by omega
        have e3 : p = place := by omega
        have e4 : ((d : Int) = (digit : Int)) ↔ d = digit := by omega
        rw [e2, e3] at h1
        simp [onlyF, h1, e2, e3, e4]
      · simp (config := { failIfUnchanged := false }) (disch := first | omega | (simp [wcs_len] <;> omega) | fail) only [go_sem, ↓reduceIte, reduceCtorEq, Nat.reduceEqDiff, Nat.reduceAdd, Nat.reduceMul, Nat.reduceSub, Nat.reduceLeDiff, Int.reduceEq, Int.reduceLT, Int.reduceLE, Int.reduceAdd, Int.reduceSub, Int.reduceMul, Int.reduceNeg, Int.reduceToNat, h1, h2, h3]
        simp only [Bool.not_false, decide_eq_true_eq] at h3
        have e3 : ¬ p = place := by omega
        simp [onlyF, h1, e3]
    · simp (config := { failIfUnchanged := false }) (disch := first | omega | (simp [wcs_len] <;> omega) | fail) only [go_sem, ↓reduceIte, reduceCtorEq, Nat.reduceEqDiff, Nat.reduceAdd, Nat.reduceMul, Nat.reduceSub, Nat.reduceLeDiff, Int.reduceEq, Int.reduceLT, Int.reduceLE, Int.reduceAdd, Int.reduceSub, Int.reduceMul, Int.reduceNeg, Int.reduceToNat, h1, h2]
      simp only [Bool.not_false, decide_eq_true_eq] at h2
      have e2 : ¬ c = cord := by omega
      simp [onlyF, h1, e2]
  · simp (config := { failIfUnchanged := false }) (disch := first | omega | (simp [wcs_len] <;> omega) | fail) only [go_sem, ↓reduceIte, reduceCtorEq, Nat.reduceEqDiff, Nat.reduceAdd, Nat.reduceMul, Nat.reduceSub, Nat.reduceLeDiff, Int.reduceEq, Int.reduceLT, Int.reduceLE, Int.reduceAdd, Int.reduceSub, Int.reduceMul, Int.reduceNeg, Int.reduceToNat, h1]
    simp only [Bool.not_true] at h1
    simp [onlyF, h1]

theorem c74 (b : Bk) (g g2 : Nat) (caps caps2 : List AV) (cord place digit : Nat) : Ctr Try.prog 74 [LM b (.clo g [] caps) (.clo g2 [] caps2), .int cord, .int place, .int digit] (LM b (.clo 108 [] (capsO g caps cord place digit)) (.clo g2 [] caps2)) := by
  refine ctr_of_wp hmix Try.func74 m74 rfl ?_
  unfold v74
  simp (config := { failIfUnchanged := false }) (disch := first | omega | (simp [wcs_len] <;> omega) | fail) only [go_sem, ↓reduceIte, reduceCtorEq, Nat.reduceEqDiff, Nat.reduceAdd, Nat.reduceMul, Nat.reduceSub, Nat.reduceLeDiff, Int.reduceEq, Int.reduceLT, Int.reduceLE, Int.reduceAdd, Int.reduceSub, Int.reduceMul, Int.reduceNeg, Int.reduceToNat]

theorem c65 (b : Bk) (hv : Val b) (g g2 : Nat) (caps caps2 : List AV) (may : Nat → Nat → Nat → Bool) (carry : Nat → Nat → Bool)
    (hmay : ∀ c p d : Nat, c ≤ b.cords.length → p < b.places.toNat → d < b.base.toNat → Ctr Try.prog g ([.int c, .int p, .int d] ++ caps) (.bool (may c p d)))
    (hcarry : ∀ p n : Nat, p < b.places.toNat → n ≤ 50 → Ctr Try.prog g2 ([.int p, .int n] ++ caps2) (.bool (carry p n))) :
    Ctr Try.prog 65 [LM b (.clo g [] caps) (.clo g2 [] caps2)] (.int (solveL b may carry).r) := by
  refine ctr_of_wp hmix Try.func65 m65 rfl ?_
  unfold v65
  simp (config := { failIfUnchanged := false }) (disch := first | omega | (simp [wcs_len] <;> omega) | fail) only [go_sem, ↓reduceIte, reduceCtorEq, Nat.reduceEqDiff, Nat.reduceAdd, Nat.reduceMul, Nat.reduceSub, Nat.reduceLeDiff, Int.reduceEq, Int.reduceLT, Int.reduceLE, Int.reduceAdd, Int.reduceSub, Int.reduceMul, Int.reduceNeg, Int.reduceToNat]
  refine wcall (c71 b hv g g2 caps caps2 may carry hmay hcarry) ?_
  simp (config := { failIfUnchanged := false }) (disch := first | omega | (simp [wcs_len] <;> omega) | fail) only [go_sem, ↓reduceIte, reduceCtorEq, Nat.reduceEqDiff, Nat.reduceAdd, Nat.reduceMul, Nat.reduceSub, Nat.reduceLeDiff, Int.reduceEq, Int.reduceLT, Int.reduceLE, Int.reduceAdd, Int.reduceSub, Int.reduceMul, Int.reduceNeg, Int.reduceToNat]

theorem val_of_check {b : Bk} (h : checkB b = true) : Val b := by
  simp only [checkB, within, isCordB, Bool.and_eq_true, decide_eq_true_eq, Bool.not_eq_true', List.any_eq_false, Bool.not_eq_true, Bool.not_eq_false'] at h
  obtain ⟨h1, h2, h3, h4, h5, h6⟩ := h
  have key : ∀ s : Sp, badS b s = false → 0 ≤ s.lo ∧ s.lo ≤ s.hi ∧ s.hi < b.base := by
    intro s hs
    simp only [badS, within, Bool.or_eq_false_iff, Bool.not_eq_false', decide_eq_true_eq, decide_eq_false_iff_not] at hs
    omega
  refine ⟨h1, h2, by omega, fun l hl => ?_, h5, fun s hs => key s (by simpa using h6 s hs)⟩
  have := h4 l hl
  simp only [Bool.and_eq_false_iff, decide_eq_false_iff_not, not_or, Decidable.not_not, Bool.not_eq_false', Bool.not_eq_true, List.any_eq_false] at this
  obtain ⟨k1, k2⟩ := this
  exact ⟨k1, fun s hs => key s (by simpa using k2 s hs)⟩

def yes3 (_ _ _ : Nat) : Bool := true
def yes2 (_ _ : Nat) : Bool := true

theorem c34 (b : Bk) (hs : Small b) : Ctr Try.prog 34 [KB b] (if checkB b then .tup [.int (solveL b yes3 yes2).r, .int 0] else .tup [.int 0, .int 110]) := by
  refine ctr_of_wp hmix Try.func34 m34 rfl ?_
  unfold v34
  simp (config := { failIfUnchanged := false }) (disch := first | omega | (simp [wcs_len] <;> omega) | fail) only [go_sem, ↓reduceIte, reduceCtorEq, Nat.reduceEqDiff, Nat.reduceAdd, Nat.reduceMul, Nat.reduceSub, Nat.reduceLeDiff, Int.reduceEq, Int.reduceLT, Int.reduceLE, Int.reduceAdd, Int.reduceSub, Int.reduceMul, Int.reduceNeg, Int.reduceToNat]
  refine wcall (c49 b hs) ?_
  cases hc : checkB b with
  | false => simp (config := { failIfUnchanged := false }) (disch := first | omega | (simp [wcs_len] <;> omega) | fail) only [go_sem, ↓reduceIte, reduceCtorEq, Nat.reduceEqDiff, Nat.reduceAdd, Nat.reduceMul, Nat.reduceSub, Nat.reduceLeDiff, Int.reduceEq, Int.reduceLT, Int.reduceLE, Int.reduceAdd, Int.reduceSub, Int.reduceMul, Int.reduceNeg, Int.reduceToNat]
  | true =>
    simp (config := { failIfUnchanged := false }) (disch := first | omega | (simp [wcs_len] <;> omega) | fail) only [go_sem, ↓reduceIte, reduceCtorEq, Nat.reduceEqDiff, Nat.reduceAdd, Nat.reduceMul, Nat.reduceSub, Nat.reduceLeDiff, Int.reduceEq, Int.reduceLT, Int.reduceLE, Int.reduceAdd, Int.reduceSub, Int.reduceMul, Int.reduceNeg, Int.reduceToNat]
    refine wcall (c64 b) ?_
    simp (config := { failIfUnchanged := false }) (disch := first | omega | (simp [wcs_len] <;> omega) | fail) only [go_sem, ↓reduceIte, reduceCtorEq, Nat.reduceEqDiff, Nat.reduceAdd, Nat.reduceMul, Nat.reduceSub, Nat.reduceLeDiff, Int.reduceEq, Int.reduceLT, Int.reduceLE, Int.reduceAdd, Int.reduceSub, Int.reduceMul, Int.reduceNeg, Int.reduceToNat]
    refine wcall (c65 b (val_of_check hc) 100 101 [] [] yes3 yes2 (fun c p d _ _ _ => c100 c p d) (fun p n _ _ => c101 p n)) ?_
    simp (config := { failIfUnchanged := false }) (disch := first | omega | (simp [wcs_len] <;> omega) | fail) only [go_sem, ↓reduceIte, reduceCtorEq, Nat.reduceEqDiff, Nat.reduceAdd, Nat.reduceMul, Nat.reduceSub, Nat.reduceLeDiff, Int.reduceEq, Int.reduceLT, Int.reduceLE, Int.reduceAdd, Int.reduceSub, Int.reduceMul, Int.reduceNeg, Int.reduceToNat]

theorem c23 (b : Bk) (hs : Small b) : Ctr Try.prog 23 [KB b] (if checkB b then .tup [.int (solveL b yes3 yes2).k, .int 0] else .tup [.int 0, .int 110]) := by
  refine ctr_of_wp hmix Try.func23 m23 rfl ?_
  unfold v23
  simp (config := { failIfUnchanged := false }) (disch := first | omega | (simp [wcs_len] <;> omega) | fail) only [go_sem, ↓reduceIte, reduceCtorEq, Nat.reduceEqDiff, Nat.reduceAdd, Nat.reduceMul, Nat.reduceSub, Nat.reduceLeDiff, Int.reduceEq, Int.reduceLT, Int.reduceLE, Int.reduceAdd, Int.reduceSub, Int.reduceMul, Int.reduceNeg, Int.reduceToNat]
  refine wcall (c49 b hs) ?_
  cases hc : checkB b with
  | false => simp (config := { failIfUnchanged := false }) (disch := first | omega | (simp [wcs_len] <;> omega) | fail) only [go_sem, ↓reduceIte, reduceCtorEq, Nat.reduceEqDiff, Nat.reduceAdd, Nat.reduceMul, Nat.reduceSub, Nat.reduceLeDiff, Int.reduceEq, Int.reduceLT, Int.reduceLE, Int.reduceAdd, Int.reduceSub, Int.reduceMul, Int.reduceNeg, Int.reduceToNat]
  | true =>
    simp (config := { failIfUnchanged := false }) (disch := first | omega | (simp [wcs_len] <;> omega) | fail) only [go_sem, ↓reduceIte, reduceCtorEq, Nat.reduceEqDiff, Nat.reduceAdd, Nat.reduceMul, Nat.reduceSub, Nat.reduceLeDiff, Int.reduceEq, Int.reduceLT, Int.reduceLE, Int.reduceAdd, Int.reduceSub, Int.reduceMul, Int.reduceNeg, Int.reduceToNat]
    refine wcall (c64 b) ?_
    simp (config := { failIfUnchanged := false }) (disch := first | omega | (simp [wcs_len] <;> omega) | fail) only [go_sem, ↓reduceIte, reduceCtorEq, Nat.reduceEqDiff, Nat.reduceAdd, Nat.reduceMul, Nat.reduceSub, Nat.reduceLeDiff, Int.reduceEq, Int.reduceLT, Int.reduceLE, Int.reduceAdd, Int.reduceSub, Int.reduceMul, Int.reduceNeg, Int.reduceToNat]
    refine wcall (c71 b (val_of_check hc) 100 101 [] [] yes3 yes2 (fun c p d _ _ _ => c100 c p d) (fun p n _ _ => c101 p n)) ?_
    simp (config := { failIfUnchanged := false }) (disch := first | omega | (simp [wcs_len] <;> omega) | fail) only [go_sem, ↓reduceIte, reduceCtorEq, Nat.reduceEqDiff, Nat.reduceAdd, Nat.reduceMul, Nat.reduceSub, Nat.reduceLeDiff, Int.reduceEq, Int.reduceLT, Int.reduceLE, Int.reduceAdd, Int.reduceSub, Int.reduceMul, Int.reduceNeg, Int.reduceToNat]

theorem c85 (b : Bk) (hs : Small b) (is : Bool) : Ctr Try.prog 85 [KB b, .bool is] (.int (if checkB b then if is then 0 else 1 else 110)) := by
  refine ctr_of_wp hmix Try.func85 m85 rfl ?_
  unfold v85
  simp (config := { failIfUnchanged := false }) (disch := first | omega | (simp [wcs_len] <;> omega) | fail) only [go_sem, ↓reduceIte, reduceCtorEq, Nat.reduceEqDiff, Nat.reduceAdd, Nat.reduceMul, Nat.reduceSub, Nat.reduceLeDiff, Int.reduceEq, Int.reduceLT, Int.reduceLE, Int.reduceAdd, Int.reduceSub, Int.reduceMul, Int.reduceNeg, Int.reduceToNat]
  refine wcall (c49 b hs) ?_
  cases hc : checkB b with
  | false => simp (config := { failIfUnchanged := false }) (disch := first | omega | (simp [wcs_len] <;> omega) | fail) only [go_sem, ↓reduceIte, reduceCtorEq, Nat.reduceEqDiff, Nat.reduceAdd, Nat.reduceMul, Nat.reduceSub, Nat.reduceLeDiff, Int.reduceEq, Int.reduceLT, Int.reduceLE, Int.reduceAdd, Int.reduceSub, Int.reduceMul, Int.reduceNeg, Int.reduceToNat]
  | true =>
    cases is with
    | false => simp (config := { failIfUnchanged := false }) (disch := first | omega | (simp [wcs_len] <;> omega) | fail) only [go_sem, ↓reduceIte, reduceCtorEq, Nat.reduceEqDiff, Nat.reduceAdd, Nat.reduceMul, Nat.reduceSub, Nat.reduceLeDiff, Int.reduceEq, Int.reduceLT, Int.reduceLE, Int.reduceAdd, Int.reduceSub, Int.reduceMul, Int.reduceNeg, Int.reduceToNat]
    | true => simp (config := { failIfUnchanged := false }) (disch := first | omega | (simp [wcs_len] <;> omega) | fail) only [go_sem, ↓reduceIte, reduceCtorEq, Nat.reduceEqDiff, Nat.reduceAdd, Nat.reduceMul, Nat.reduceSub, Nat.reduceLeDiff, Int.reduceEq, Int.reduceLT, Int.reduceLE, Int.reduceAdd, Int.reduceSub, Int.reduceMul, Int.reduceNeg, Int.reduceToNat]

theorem c77 (b : Bk) (hs : Small b) (is : Bool) (hc : checkB b = true) (his : is = true) (hn : ¬ (solveL b yes3 yes2).r = 0) : Ctr Try.prog 77 [KB b, .bool is] (.tup [LM b (.clo 100 [] []) (.clo 101 [] []), .int 0]) := by
  subst his
  refine ctr_of_wp hmix Try.func77 m77 rfl ?_
  unfold v77
  simp (config := { failIfUnchanged := false }) (disch := first | omega | (simp [wcs_len] <;> omega) | fail) only [go_sem, ↓reduceIte, reduceCtorEq, Nat.reduceEqDiff, Nat.reduceAdd, Nat.reduceMul, Nat.reduceSub, Nat.reduceLeDiff, Int.reduceEq, Int.reduceLT, Int.reduceLE, Int.reduceAdd, Int.reduceSub, Int.reduceMul, Int.reduceNeg, Int.reduceToNat]
  refine wcall (c85 b hs true) ?_
  simp (config := { failIfUnchanged := false }) (disch := first | omega | (simp [wcs_len] <;> omega) | fail) only [go_sem, ↓reduceIte, reduceCtorEq, Nat.reduceEqDiff, Nat.reduceAdd, Nat.reduceMul, Nat.reduceSub, Nat.reduceLeDiff, Int.reduceEq, Int.reduceLT, Int.reduceLE, Int.reduceAdd, Int.reduceSub, Int.reduceMul, Int.reduceNeg, Int.reduceToNat, hc]
  refine wcall (c64 b) ?_
  simp (config := { failIfUnchanged := false }) (disch := first | omega | (simp [wcs_len] <;> omega) | fail) only [go_sem, ↓reduceIte, reduceCtorEq, Nat.reduceEqDiff, Nat.reduceAdd, Nat.reduceMul, Nat.reduceSub, Nat.reduceLeDiff, Int.reduceEq, Int.reduceLT, Int.reduceLE, Int.reduceAdd, Int.reduceSub, Int.reduceMul, Int.reduceNeg, Int.reduceToNat]
  refine wcall (c65 b (val_of_check hc) 100 101 [] [] yes3 yes2 (fun c p d _ _ _ => c100 c p d) (fun p n _ _ => c101 p n)) ?_
  simp (config := { failIfUnchanged := false }) (disch := first | omega | (simp [wcs_len] <;> omega) | fail) only [go_sem, ↓reduceIte, reduceCtorEq, Nat.reduceEqDiff, Nat.reduceAdd, Nat.reduceMul, Nat.reduceSub, Nat.reduceLeDiff, Int.reduceEq, Int.reduceLT, Int.reduceLE, Int.reduceAdd, Int.reduceSub, Int.reduceMul, Int.reduceNeg, Int.reduceToNat, hn]

end Go.Proofs.Ytkkiipjfbebipaa

/- All cords; numbers of digits; Read. -/
set_option linter.unusedSimpArgs false
set_option linter.unusedVariables false
set_option linter.unnecessarySimpa false
namespace Go.Proofs.Ytkkiipjfbebipaa
open Go Go.V

def allC (b : Bk) : List (List Sp) := b.cords ++ [b.top]

theorem wsliceF_len {next : AS → Prop} {σ : AS} {d : Option Nat} {sz : Nat} {es : List AV} {m : VM} {n : Int} (h : n = es.length) : WSliceF sz (.sl sz es m) none (some (.int n)) (some (.int n)) d next σ = next (put d (.sl sz es .full) σ) := by
  subst h
  exact wsliceF_all

theorem c66 (b : Bk) (hs : Small b) : Ctr Try.prog 66 [KB b] (.sl 1 ((allC b).map SS) .sh) := by
  refine ctr_of_wp hmix Try.func66 m66 rfl ?_
  unfold v66
  have h1 := hs.cords
  simp (config := { failIfUnchanged := false }) (disch := first | omega | (simp [wcs_len] <;> omega) | fail) only [go_sem, ↓reduceIte, reduceCtorEq, Nat.reduceEqDiff, Nat.reduceAdd, Nat.reduceMul, Nat.reduceSub, Nat.reduceLeDiff, Int.reduceEq, Int.reduceLT, Int.reduceLE, Int.reduceAdd, Int.reduceSub, Int.reduceMul, Int.reduceNeg, Int.reduceToNat]
  rw [wsliceF_len (by simp)]
  simp (config := { failIfUnchanged := false }) (disch := first | omega | (simp [wcs_len] <;> omega) | fail) only [go_sem, ↓reduceIte, reduceCtorEq, Nat.reduceEqDiff, Nat.reduceAdd, Nat.reduceMul, Nat.reduceSub, Nat.reduceLeDiff, Int.reduceEq, Int.reduceLT, Int.reduceLE, Int.reduceAdd, Int.reduceSub, Int.reduceMul, Int.reduceNeg, Int.reduceToNat]
  simp [allC]

/-- The number of digits, as the machine reckons. -/
def numL (base : Int) (l : List Int) : Int := l.foldl (fun n d => w64 (w64 (n * base) + d)) 0

theorem c81 (base : Int) (l : List Int) (hl : l.length < 4294967296) : Ctr Try.prog 81 [.int base, IS l] (.int (numL base l)) := by
  refine ctr_of_wp hmix Try.func81 m81 rfl ?_
  unfold v81 IS
  simp (config := { failIfUnchanged := false }) (disch := first | omega | (simp [wcs_len] <;> omega) | fail) only [go_sem, ↓reduceIte, reduceCtorEq, Nat.reduceEqDiff, Nat.reduceAdd, Nat.reduceMul, Nat.reduceSub, Nat.reduceLeDiff, Int.reduceEq, Int.reduceLT, Int.reduceLE, Int.reduceAdd, Int.reduceSub, Int.reduceMul, Int.reduceNeg, Int.reduceToNat]
  refine wp_loop' (Nat × Int) (fun x => ⟨[(0, .int base), (5, .int x.2), (8, IS l), (9, .int l.length), (10, .int x.1)], [], [], none⟩) (fun x => x.1 ≤ l.length ∧ x.2 = numL base (l.take x.1)) (fun x => l.length - x.1) (0, 0) (by simp [numL]) (by unfold IS; simp (config := { failIfUnchanged := false }) (disch := first | omega | (simp [wcs_len] <;> omega) | fail) only [go_sem, ↓reduceIte, reduceCtorEq, Nat.reduceEqDiff, Nat.reduceAdd, Nat.reduceMul, Nat.reduceSub, Nat.reduceLeDiff, Int.reduceEq, Int.reduceLT, Int.reduceLE, Int.reduceAdd, Int.reduceSub, Int.reduceMul, Int.reduceNeg, Int.reduceToNat]; simp) ?_
  rintro ⟨i, n⟩ ⟨hi, hn⟩
  dsimp only at hi hn ⊢
  unfold IS
  simp (config := { failIfUnchanged := false }) (disch := first | omega | (simp [wcs_len] <;> omega) | fail) only [go_sem, ↓reduceIte, reduceCtorEq, Nat.reduceEqDiff, Nat.reduceAdd, Nat.reduceMul, Nat.reduceSub, Nat.reduceLeDiff, Int.reduceEq, Int.reduceLT, Int.reduceLE, Int.reduceAdd, Int.reduceSub, Int.reduceMul, Int.reduceNeg, Int.reduceToNat]
  refine wcond_dec (fun h => ?_) (fun h => ?_)
  · simp (config := { failIfUnchanged := false }) (disch := first | omega | (simp [wcs_len] <;> omega) | fail) only [go_sem, ↓reduceIte, reduceCtorEq, Nat.reduceEqDiff, Nat.reduceAdd, Nat.reduceMul, Nat.reduceSub, Nat.reduceLeDiff, Int.reduceEq, Int.reduceLT, Int.reduceLE, Int.reduceAdd, Int.reduceSub, Int.reduceMul, Int.reduceNeg, Int.reduceToNat]
    have hlt : i < l.length := by omega
    refine ⟨(i + 1, numL base (l.take (i + 1))), ⟨by omega, rfl⟩, by dsimp only; omega, ?_⟩
    have e : numL base (l.take (i + 1)) = w64 (w64 (n * base) + l[i]?.getD default) := by
      rw [hn]
      unfold numL
      rw [List.take_add_one, List.getElem?_eq_getElem hlt, List.foldl_append]
      rfl
    rw [e]
    simp (config := { failIfUnchanged := false }) (disch := first | omega | (simp [wcs_len] <;> omega) | fail) only [go_sem, ↓reduceIte, reduceCtorEq, Nat.reduceEqDiff, Nat.reduceAdd, Nat.reduceMul, Nat.reduceSub, Nat.reduceLeDiff, Int.reduceEq, Int.reduceLT, Int.reduceLE, Int.reduceAdd, Int.reduceSub, Int.reduceMul, Int.reduceNeg, Int.reduceToNat]
    simp
  · simp (config := { failIfUnchanged := false }) (disch := first | omega | (simp [wcs_len] <;> omega) | fail) only [go_sem, ↓reduceIte, reduceCtorEq, Nat.reduceEqDiff, Nat.reduceAdd, Nat.reduceMul, Nat.reduceSub, Nat.reduceLeDiff, Int.reduceEq, Int.reduceLT, Int.reduceLE, Int.reduceAdd, Int.reduceSub, Int.reduceMul, Int.reduceNeg, Int.reduceToNat]
    have e : i = l.length := by omega
    rw [hn, e, List.take_length]

theorem c111 (b : Bk) (d : Int) : Ctr Try.prog 111 [.int d, .ref 4 [KB b] 0 0] (.bool (!within d 0 (w64 (b.base - 1)))) := by
  refine ctr_of_wp hmix Try.func111 m111 rfl ?_
  unfold v111
  simp (config := { failIfUnchanged := false }) (disch := first | omega | (simp [wcs_len] <;> omega) | fail) only [go_sem, ↓reduceIte, reduceCtorEq, Nat.reduceEqDiff, Nat.reduceAdd, Nat.reduceMul, Nat.reduceSub, Nat.reduceLeDiff, Int.reduceEq, Int.reduceLT, Int.reduceLE, Int.reduceAdd, Int.reduceSub, Int.reduceMul, Int.reduceNeg, Int.reduceToNat]
  refine wcall (c86 _ _ _) ?_
  simp (config := { failIfUnchanged := false }) (disch := first | omega | (simp [wcs_len] <;> omega) | fail) only [go_sem, ↓reduceIte, reduceCtorEq, Nat.reduceEqDiff, Nat.reduceAdd, Nat.reduceMul, Nat.reduceSub, Nat.reduceLeDiff, Int.reduceEq, Int.reduceLT, Int.reduceLE, Int.reduceAdd, Int.reduceSub, Int.reduceMul, Int.reduceNeg, Int.reduceToNat]

theorem c88 (b : Bk) (l : List Int) (hl : l.length < 4294967296) : Ctr Try.prog 88 [KB b, IS l] (.bool (decide ((l.length : Int) = b.places) && !l.any (fun d => !within d 0 (w64 (b.base - 1))))) := by
  refine ctr_of_wp hmix Try.func88 m88 rfl ?_
  unfold v88 IS
  simp (config := { failIfUnchanged := false }) (disch := first | omega | (simp [wcs_len] <;> omega) | fail) only [go_sem, ↓reduceIte, reduceCtorEq, Nat.reduceEqDiff, Nat.reduceAdd, Nat.reduceMul, Nat.reduceSub, Nat.reduceLeDiff, Int.reduceEq, Int.reduceLT, Int.reduceLE, Int.reduceAdd, Int.reduceSub, Int.reduceMul, Int.reduceNeg, Int.reduceToNat]
  refine WGd_bool (fun h => ?_) (fun h => ?_)
  · simp (config := { failIfUnchanged := false }) (disch := first | omega | (simp [wcs_len] <;> omega) | fail) only [go_sem, ↓reduceIte, reduceCtorEq, Nat.reduceEqDiff, Nat.reduceAdd, Nat.reduceMul, Nat.reduceSub, Nat.reduceLeDiff, Int.reduceEq, Int.reduceLT, Int.reduceLE, Int.reduceAdd, Int.reduceSub, Int.reduceMul, Int.reduceNeg, Int.reduceToNat, h]
    refine wcall (c110 l 111 _ (fun d => !within d 0 (w64 (b.base - 1))) (fun x _ => c111 b x) hl) ?_
    simp (config := { failIfUnchanged := false }) (disch := first | omega | (simp [wcs_len] <;> omega) | fail) only [go_sem, ↓reduceIte, reduceCtorEq, Nat.reduceEqDiff, Nat.reduceAdd, Nat.reduceMul, Nat.reduceSub, Nat.reduceLeDiff, Int.reduceEq, Int.reduceLT, Int.reduceLE, Int.reduceAdd, Int.reduceSub, Int.reduceMul, Int.reduceNeg, Int.reduceToNat, h]
  · simp (config := { failIfUnchanged := false }) (disch := first | omega | (simp [wcs_len] <;> omega) | fail) only [go_sem, ↓reduceIte, reduceCtorEq, Nat.reduceEqDiff, Nat.reduceAdd, Nat.reduceMul, Nat.reduceSub, Nat.reduceLeDiff, Int.reduceEq, Int.reduceLT, Int.reduceLE, Int.reduceAdd, Int.reduceSub, Int.reduceMul, Int.reduceNeg, Int.reduceToNat, h]

theorem c45 (b : Bk) (hs : Small b) (l : List Int) (hl : l.length < 4294967296) : Ctr Try.prog 45 [KB b, IS l]
    (if checkB b then if decide ((l.length : Int) = b.places) && !l.any (fun d => !within d 0 (w64 (b.base - 1))) then .tup [.int (numL b.base l), .int 0] else .tup [.int 0, .int 1] else .tup [.int 0, .int 110]) := by
  refine ctr_of_wp hmix Try.func45 m45 rfl ?_
  unfold v45 IS
  simp (config := { failIfUnchanged := false }) (disch := first | omega | (simp [wcs_len] <;> omega) | fail) only [go_sem, ↓reduceIte, reduceCtorEq, Nat.reduceEqDiff, Nat.reduceAdd, Nat.reduceMul, Nat.reduceSub, Nat.reduceLeDiff, Int.reduceEq, Int.reduceLT, Int.reduceLE, Int.reduceAdd, Int.reduceSub, Int.reduceMul, Int.reduceNeg, Int.reduceToNat]
  refine wcall (c88 b l hl) ?_
  simp (config := { failIfUnchanged := false }) (disch := first | omega | (simp [wcs_len] <;> omega) | fail) only [go_sem, ↓reduceIte, reduceCtorEq, Nat.reduceEqDiff, Nat.reduceAdd, Nat.reduceMul, Nat.reduceSub, Nat.reduceLeDiff, Int.reduceEq, Int.reduceLT, Int.reduceLE, Int.reduceAdd, Int.reduceSub, Int.reduceMul, Int.reduceNeg, Int.reduceToNat]
  refine wcall (c85 b hs _) ?_
  cases hc : checkB b with
  | false => simp (config := { failIfUnchanged := false }) (disch := first | omega | (simp [wcs_len] <;> omega) | fail) only [go_sem, ↓reduceIte, reduceCtorEq, Nat.reduceEqDiff, Nat.reduceAdd, Nat.reduceMul, Nat.reduceSub, Nat.reduceLeDiff, Int.reduceEq, Int.reduceLT, Int.reduceLE, Int.reduceAdd, Int.reduceSub, Int.reduceMul, Int.reduceNeg, Int.reduceToNat]
  | true =>
    cases hd : (decide ((l.length : Int) = b.places) && !l.any (fun d => !within d 0 (w64 (b.base - 1)))) with
    | false => simp (config := { failIfUnchanged := false }) (disch := first | omega | (simp [wcs_len] <;> omega) | fail) only [go_sem, ↓reduceIte, reduceCtorEq, Nat.reduceEqDiff, Nat.reduceAdd, Nat.reduceMul, Nat.reduceSub, Nat.reduceLeDiff, Int.reduceEq, Int.reduceLT, Int.reduceLE, Int.reduceAdd, Int.reduceSub, Int.reduceMul, Int.reduceNeg, Int.reduceToNat]
    | true =>
      simp (config := { failIfUnchanged := false }) (disch := first | omega | (simp [wcs_len] <;> omega) | fail) only [go_sem, ↓reduceIte, reduceCtorEq, Nat.reduceEqDiff, Nat.reduceAdd, Nat.reduceMul, Nat.reduceSub, Nat.reduceLeDiff, Int.reduceEq, Int.reduceLT, Int.reduceLE, Int.reduceAdd, Int.reduceSub, Int.reduceMul, Int.reduceNeg, Int.reduceToNat]
      refine wcall (c81 b.base l hl) ?_
      simp (config := { failIfUnchanged := false }) (disch := first | omega | (simp [wcs_len] <;> omega) | fail) only [go_sem, ↓reduceIte, reduceCtorEq, Nat.reduceEqDiff, Nat.reduceAdd, Nat.reduceMul, Nat.reduceSub, Nat.reduceLeDiff, Int.reduceEq, Int.reduceLT, Int.reduceLE, Int.reduceAdd, Int.reduceSub, Int.reduceMul, Int.reduceNeg, Int.reduceToNat]

end Go.Proofs.Ytkkiipjfbebipaa

/- The reference: what is valid. -/
set_option linter.unusedSimpArgs false
set_option linter.unusedVariables false
set_option linter.unnecessarySimpa false
namespace Go.Proofs.Ytkkiipjfbebipaa
open Go Go.V

theorem c40 (n lo hi : Int) : Ctr Try.prog 40 [.int n, .int lo, .int hi] (.bool (within n lo hi)) := by
  refine ctr_of_wp hmix Try.func40 m40 rfl ?_
  unfold v40
  simp (config := { failIfUnchanged := false }) (disch := first | omega | (simp [wcs_len] <;> omega) | fail) only [go_sem, ↓reduceIte, reduceCtorEq, Nat.reduceEqDiff, Nat.reduceAdd, Nat.reduceMul, Nat.reduceSub, Nat.reduceLeDiff, Int.reduceEq, Int.reduceLT, Int.reduceLE, Int.reduceAdd, Int.reduceSub, Int.reduceMul, Int.reduceNeg, Int.reduceToNat]
  refine WGd_bool (fun h => ?_) (fun h => ?_)
  · simp (config := { failIfUnchanged := false }) (disch := first | omega | (simp [wcs_len] <;> omega) | fail) only [go_sem, ↓reduceIte, reduceCtorEq, Nat.reduceEqDiff, Nat.reduceAdd, Nat.reduceMul, Nat.reduceSub, Nat.reduceLeDiff, Int.reduceEq, Int.reduceLT, Int.reduceLE, Int.reduceAdd, Int.reduceSub, Int.reduceMul, Int.reduceNeg, Int.reduceToNat, h]
    simp only [decide_eq_true_eq] at h
    simp [within, h]
  · simp (config := { failIfUnchanged := false }) (disch := first | omega | (simp [wcs_len] <;> omega) | fail) only [go_sem, ↓reduceIte, reduceCtorEq, Nat.reduceEqDiff, Nat.reduceAdd, Nat.reduceMul, Nat.reduceSub, Nat.reduceLeDiff, Int.reduceEq, Int.reduceLT, Int.reduceLE, Int.reduceAdd, Int.reduceSub, Int.reduceMul, Int.reduceNeg, Int.reduceToNat, h]
    simp only [Bool.not_true, decide_eq_false_iff_not] at h
    simp [within, h]

theorem c76 (n lo hi : Int) : Ctr Try.prog 76 [.int n, .int lo, .int hi] (.bool (within n lo hi)) := by
  refine ctr_of_wp hmix Try.func76 m76 rfl ?_
  unfold v76
  simp (config := { failIfUnchanged := false }) (disch := first | omega | (simp [wcs_len] <;> omega) | fail) only [go_sem, ↓reduceIte, reduceCtorEq, Nat.reduceEqDiff, Nat.reduceAdd, Nat.reduceMul, Nat.reduceSub, Nat.reduceLeDiff, Int.reduceEq, Int.reduceLT, Int.reduceLE, Int.reduceAdd, Int.reduceSub, Int.reduceMul, Int.reduceNeg, Int.reduceToNat]
  refine wcall (c40 _ _ _) ?_
  simp (config := { failIfUnchanged := false }) (disch := first | omega | (simp [wcs_len] <;> omega) | fail) only [go_sem, ↓reduceIte, reduceCtorEq, Nat.reduceEqDiff, Nat.reduceAdd, Nat.reduceMul, Nat.reduceSub, Nat.reduceLeDiff, Int.reduceEq, Int.reduceLT, Int.reduceLE, Int.reduceAdd, Int.reduceSub, Int.reduceMul, Int.reduceNeg, Int.reduceToNat]

theorem c29 (b : Bk) (n : Int) : Ctr Try.prog 29 [KB b, .int n] (.bool (within n 0 b.cords.length)) := by
  refine ctr_of_wp hmix Try.func29 m29 rfl ?_
  unfold v29
  simp (config := { failIfUnchanged := false }) (disch := first | omega | (simp [wcs_len] <;> omega) | fail) only [go_sem, ↓reduceIte, reduceCtorEq, Nat.reduceEqDiff, Nat.reduceAdd, Nat.reduceMul, Nat.reduceSub, Nat.reduceLeDiff, Int.reduceEq, Int.reduceLT, Int.reduceLE, Int.reduceAdd, Int.reduceSub, Int.reduceMul, Int.reduceNeg, Int.reduceToNat]
  refine wcall (c76 _ _ _) ?_
  simp (config := { failIfUnchanged := false }) (disch := first | omega | (simp [wcs_len] <;> omega) | fail) only [go_sem, ↓reduceIte, reduceCtorEq, Nat.reduceEqDiff, Nat.reduceAdd, Nat.reduceMul, Nat.reduceSub, Nat.reduceLeDiff, Int.reduceEq, Int.reduceLT, Int.reduceLE, Int.reduceAdd, Int.reduceSub, Int.reduceMul, Int.reduceNeg, Int.reduceToNat]

theorem c30 (b : Bk) (n : Int) : Ctr Try.prog 30 [KB b, .int n] (.bool (within n 0 (w64 (b.places - 1)))) := by
  refine ctr_of_wp hmix Try.func30 m30 rfl ?_
  unfold v30
  simp (config := { failIfUnchanged := false }) (disch := first | omega | (simp [wcs_len] <;> omega) | fail) only [go_sem, ↓reduceIte, reduceCtorEq, Nat.reduceEqDiff, Nat.reduceAdd, Nat.reduceMul, Nat.reduceSub, Nat.reduceLeDiff, Int.reduceEq, Int.reduceLT, Int.reduceLE, Int.reduceAdd, Int.reduceSub, Int.reduceMul, Int.reduceNeg, Int.reduceToNat]
  refine wcall (c76 _ _ _) ?_
  simp (config := { failIfUnchanged := false }) (disch := first | omega | (simp [wcs_len] <;> omega) | fail) only [go_sem, ↓reduceIte, reduceCtorEq, Nat.reduceEqDiff, Nat.reduceAdd, Nat.reduceMul, Nat.reduceSub, Nat.reduceLeDiff, Int.reduceEq, Int.reduceLT, Int.reduceLE, Int.reduceAdd, Int.reduceSub, Int.reduceMul, Int.reduceNeg, Int.reduceToNat]

theorem badS_iff (b : Bk) (s : Sp) : badS b s = false ↔ within s.hi 0 (b.base - 1) = true ∧ within s.lo 0 s.hi = true := by
  simp only [badS, within, Bool.or_eq_false_iff, Bool.not_eq_false', decide_eq_true_eq, decide_eq_false_iff_not]
  omega

theorem c93 (b : Bk) (l : List Sp) (hb : 2 ≤ b.base ∧ b.base ≤ 10) (hl : l.length < 4294967296) : Ctr Try.prog 93 [KB b, SS l] (.bool (isCordB b l)) := by
  refine ctr_of_wp hmix Try.func93 m93 rfl ?_
  unfold v93
  simp (config := { failIfUnchanged := false }) (disch := first | omega | (simp [wcs_len] <;> omega) | fail) only [go_sem, ↓reduceIte, reduceCtorEq, Nat.reduceEqDiff, Nat.reduceAdd, Nat.reduceMul, Nat.reduceSub, Nat.reduceLeDiff, Int.reduceEq, Int.reduceLT, Int.reduceLE, Int.reduceAdd, Int.reduceSub, Int.reduceMul, Int.reduceNeg, Int.reduceToNat]
  refine wcond_dec (fun h => ?_) (fun h => ?_)
  · simp (config := { failIfUnchanged := false }) (disch := first | omega | (simp [wcs_len] <;> omega) | fail) only [go_sem, ↓reduceIte, reduceCtorEq, Nat.reduceEqDiff, Nat.reduceAdd, Nat.reduceMul, Nat.reduceSub, Nat.reduceLeDiff, Int.reduceEq, Int.reduceLT, Int.reduceLE, Int.reduceAdd, Int.reduceSub, Int.reduceMul, Int.reduceNeg, Int.reduceToNat]
    simp [isCordB, h]
  · simp only [Decidable.not_not] at h
    simp (config := { failIfUnchanged := false }) (disch := first | omega | (simp [wcs_len] <;> omega) | fail) only [go_sem, ↓reduceIte, reduceCtorEq, Nat.reduceEqDiff, Nat.reduceAdd, Nat.reduceMul, Nat.reduceSub, Nat.reduceLeDiff, Int.reduceEq, Int.reduceLT, Int.reduceLE, Int.reduceAdd, Int.reduceSub, Int.reduceMul, Int.reduceNeg, Int.reduceToNat]
    refine wp_loop' Nat (fun i => ⟨[(1, SS l), (2, .ptr 2 0), (5, .int i)], [(2, ⟨[.int b.base, .int b.places, .sl 1 (b.cords.map SS) .sh, SS b.top], false⟩)], [], none⟩) (fun i => i ≤ l.length ∧ ∀ x ∈ l.take i, badS b x = false) (fun i => l.length - i) 0 (by simp) (by simp (config := { failIfUnchanged := false }) (disch := first | omega | (simp [wcs_len] <;> omega) | fail) only [go_sem, ↓reduceIte, reduceCtorEq, Nat.reduceEqDiff, Nat.reduceAdd, Nat.reduceMul, Nat.reduceSub, Nat.reduceLeDiff, Int.reduceEq, Int.reduceLT, Int.reduceLE, Int.reduceAdd, Int.reduceSub, Int.reduceMul, Int.reduceNeg, Int.reduceToNat]; rfl) ?_
    rintro i ⟨hi, hpre⟩
    simp (config := { failIfUnchanged := false }) (disch := first | omega | (simp [wcs_len] <;> omega) | fail) only [go_sem, ↓reduceIte, reduceCtorEq, Nat.reduceEqDiff, Nat.reduceAdd, Nat.reduceMul, Nat.reduceSub, Nat.reduceLeDiff, Int.reduceEq, Int.reduceLT, Int.reduceLE, Int.reduceAdd, Int.reduceSub, Int.reduceMul, Int.reduceNeg, Int.reduceToNat]
    refine wcond_dec (fun h2 => ?_) (fun h2 => ?_)
    · have hlt : i < l.length := by omega
      simp (config := { failIfUnchanged := false }) (disch := first | omega | (simp [wcs_len] <;> omega) | fail) only [go_sem, ↓reduceIte, reduceCtorEq, Nat.reduceEqDiff, Nat.reduceAdd, Nat.reduceMul, Nat.reduceSub, Nat.reduceLeDiff, Int.reduceEq, Int.reduceLT, Int.reduceLE, Int.reduceAdd, Int.reduceSub, Int.reduceMul, Int.reduceNeg, Int.reduceToNat]
      refine wcall (c76 _ _ _) ?_
      simp (config := { failIfUnchanged := false }) (disch := first | omega | (simp [wcs_len] <;> omega) | fail) only [go_sem, ↓reduceIte, reduceCtorEq, Nat.reduceEqDiff, Nat.reduceAdd, Nat.reduceMul, Nat.reduceSub, Nat.reduceLeDiff, Int.reduceEq, Int.reduceLT, Int.reduceLE, Int.reduceAdd, Int.reduceSub, Int.reduceMul, Int.reduceNeg, Int.reduceToNat]
      have no : badS b (l[i]?.getD default) = true → isCordB b l = false := by
        intro hx
        have : l.any (badS b) = true := List.any_eq_true.2 ⟨_, mem_getD hlt, hx⟩
        simp [isCordB, this]
      refine WGd_bool (fun h3 => ?_) (fun h3 => ?_)
      · simp (config := { failIfUnchanged := false }) (disch := first | omega | (simp [wcs_len] <;> omega) | fail) only [go_sem, ↓reduceIte, reduceCtorEq, Nat.reduceEqDiff, Nat.reduceAdd, Nat.reduceMul, Nat.reduceSub, Nat.reduceLeDiff, Int.reduceEq, Int.reduceLT, Int.reduceLE, Int.reduceAdd, Int.reduceSub, Int.reduceMul, Int.reduceNeg, Int.reduceToNat, h3]
        refine wcall (c76 _ _ _) ?_
        simp (config := { failIfUnchanged := false }) (disch := first | omega | (simp [wcs_len] <;> omega) | fail) only [go_sem, ↓reduceIte, reduceCtorEq, Nat.reduceEqDiff, Nat.reduceAdd, Nat.reduceMul, Nat.reduceSub, Nat.reduceLeDiff, Int.reduceEq, Int.reduceLT, Int.reduceLE, Int.reduceAdd, Int.reduceSub, Int.reduceMul, Int.reduceNeg, Int.reduceToNat]
        refine wcond_bool (fun h4 => ?_) (fun h4 => ?_)
        · simp (config := { failIfUnchanged := false }) (disch := first | omega | (simp [wcs_len] <;> omega) | fail) only [go_sem, ↓reduceIte, reduceCtorEq, Nat.reduceEqDiff, Nat.reduceAdd, Nat.reduceMul, Nat.reduceSub, Nat.reduceLeDiff, Int.reduceEq, Int.reduceLT, Int.reduceLE, Int.reduceAdd, Int.reduceSub, Int.reduceMul, Int.reduceNeg, Int.reduceToNat]
          rw [no]
          cases hx : badS b (l[i]?.getD default) with
          | true => rfl
          | false => rw [badS_iff] at hx; simp [hx.2] at h4
        · simp (config := { failIfUnchanged := false }) (disch := first | omega | (simp [wcs_len] <;> omega) | fail) only [go_sem, ↓reduceIte, reduceCtorEq, Nat.reduceEqDiff, Nat.reduceAdd, Nat.reduceMul, Nat.reduceSub, Nat.reduceLeDiff, Int.reduceEq, Int.reduceLT, Int.reduceLE, Int.reduceAdd, Int.reduceSub, Int.reduceMul, Int.reduceNeg, Int.reduceToNat]
          have hx : badS b (l[i]?.getD default) = false := by
            rw [badS_iff]
            simpa using And.intro h3 h4
          refine ⟨i + 1, ⟨by omega, take_succ_all hlt hpre hx⟩, by dsimp only; omega, ?_⟩
          simp (config := { failIfUnchanged := false }) (disch := first | omega | (simp [wcs_len] <;> omega) | fail) only [go_sem, ↓reduceIte, reduceCtorEq, Nat.reduceEqDiff, Nat.reduceAdd, Nat.reduceMul, Nat.reduceSub, Nat.reduceLeDiff, Int.reduceEq, Int.reduceLT, Int.reduceLE, Int.reduceAdd, Int.reduceSub, Int.reduceMul, Int.reduceNeg, Int.reduceToNat]
          simp
      · simp (config := { failIfUnchanged := false }) (disch := first | omega | (simp [wcs_len] <;> omega) | fail) only [go_sem, ↓reduceIte, reduceCtorEq, Nat.reduceEqDiff, Nat.reduceAdd, Nat.reduceMul, Nat.reduceSub, Nat.reduceLeDiff, Int.reduceEq, Int.reduceLT, Int.reduceLE, Int.reduceAdd, Int.reduceSub, Int.reduceMul, Int.reduceNeg, Int.reduceToNat, h3]
        rw [no]
        cases hx : badS b (l[i]?.getD default) with
        | true => rfl
        | false => rw [badS_iff] at hx; simp [hx.1] at h3
    · simp (config := { failIfUnchanged := false }) (disch := first | omega | (simp [wcs_len] <;> omega) | fail) only [go_sem, ↓reduceIte, reduceCtorEq, Nat.reduceEqDiff, Nat.reduceAdd, Nat.reduceMul, Nat.reduceSub, Nat.reduceLeDiff, Int.reduceEq, Int.reduceLT, Int.reduceLE, Int.reduceAdd, Int.reduceSub, Int.reduceMul, Int.reduceNeg, Int.reduceToNat]
      have e : i = l.length := by omega
      rw [e, List.take_length] at hpre
      have : l.any (badS b) = false := List.any_eq_false.2 fun x hx => by simp [hpre x hx]
      simp [isCordB, this, h]

theorem c50 (b : Bk) (hs : Small b) : Ctr Try.prog 50 [KB b] (.int (if checkB b then 0 else 110)) := by
  refine ctr_of_wp hmix Try.func50 m50 rfl ?_
  unfold v50
  simp (config := { failIfUnchanged := false }) (disch := first | omega | (simp [wcs_len] <;> omega) | fail) only [go_sem, ↓reduceIte, reduceCtorEq, Nat.reduceEqDiff, Nat.reduceAdd, Nat.reduceMul, Nat.reduceSub, Nat.reduceLeDiff, Int.reduceEq, Int.reduceLT, Int.reduceLE, Int.reduceAdd, Int.reduceSub, Int.reduceMul, Int.reduceNeg, Int.reduceToNat]
  refine wcall (c76 _ _ _) ?_
  simp (config := { failIfUnchanged := false }) (disch := first | omega | (simp [wcs_len] <;> omega) | fail) only [go_sem, ↓reduceIte, reduceCtorEq, Nat.reduceEqDiff, Nat.reduceAdd, Nat.reduceMul, Nat.reduceSub, Nat.reduceLeDiff, Int.reduceEq, Int.reduceLT, Int.reduceLE, Int.reduceAdd, Int.reduceSub, Int.reduceMul, Int.reduceNeg, Int.reduceToNat]
  refine WGd_bool (fun h1 => ?_) (fun h1 => ?_)
  · simp (config := { failIfUnchanged := false }) (disch := first | omega | (simp [wcs_len] <;> omega) | fail) only [go_sem, ↓reduceIte, reduceCtorEq, Nat.reduceEqDiff, Nat.reduceAdd, Nat.reduceMul, Nat.reduceSub, Nat.reduceLeDiff, Int.reduceEq, Int.reduceLT, Int.reduceLE, Int.reduceAdd, Int.reduceSub, Int.reduceMul, Int.reduceNeg, Int.reduceToNat, h1]
    have hb : 2 ≤ b.base ∧ b.base ≤ 10 := by simpa [within] using h1
    refine wcall (c76 _ _ _) ?_
    simp (config := { failIfUnchanged := false }) (disch := first | omega | (simp [wcs_len] <;> omega) | fail) only [go_sem, ↓reduceIte, reduceCtorEq, Nat.reduceEqDiff, Nat.reduceAdd, Nat.reduceMul, Nat.reduceSub, Nat.reduceLeDiff, Int.reduceEq, Int.reduceLT, Int.reduceLE, Int.reduceAdd, Int.reduceSub, Int.reduceMul, Int.reduceNeg, Int.reduceToNat]
    refine WGd_bool (fun h2 => ?_) (fun h2 => ?_)
    · simp (config := { failIfUnchanged := false }) (disch := first | omega | (simp [wcs_len] <;> omega) | fail) only [go_sem, ↓reduceIte, reduceCtorEq, Nat.reduceEqDiff, Nat.reduceAdd, Nat.reduceMul, Nat.reduceSub, Nat.reduceLeDiff, Int.reduceEq, Int.reduceLT, Int.reduceLE, Int.reduceAdd, Int.reduceSub, Int.reduceMul, Int.reduceNeg, Int.reduceToNat, h2]
      refine WGd_bool (fun h3 => ?_) (fun h3 => ?_)
      · simp (config := { failIfUnchanged := false }) (disch := first | omega | (simp [wcs_len] <;> omega) | fail) only [go_sem, ↓reduceIte, reduceCtorEq, Nat.reduceEqDiff, Nat.reduceAdd, Nat.reduceMul, Nat.reduceSub, Nat.reduceLeDiff, Int.reduceEq, Int.reduceLT, Int.reduceLE, Int.reduceAdd, Int.reduceSub, Int.reduceMul, Int.reduceNeg, Int.reduceToNat, h3]
        refine wcall (c93 b b.top hb hs.top) ?_
        simp (config := { failIfUnchanged := false }) (disch := first | omega | (simp [wcs_len] <;> omega) | fail) only [go_sem, ↓reduceIte, reduceCtorEq, Nat.reduceEqDiff, Nat.reduceAdd, Nat.reduceMul, Nat.reduceSub, Nat.reduceLeDiff, Int.reduceEq, Int.reduceLT, Int.reduceLE, Int.reduceAdd, Int.reduceSub, Int.reduceMul, Int.reduceNeg, Int.reduceToNat]
        refine wcond_bool (fun h4 => ?_) (fun h4 => ?_)
        · simp (config := { failIfUnchanged := false }) (disch := first | omega | (simp [wcs_len] <;> omega) | fail) only [go_sem, ↓reduceIte, reduceCtorEq, Nat.reduceEqDiff, Nat.reduceAdd, Nat.reduceMul, Nat.reduceSub, Nat.reduceLeDiff, Int.reduceEq, Int.reduceLT, Int.reduceLE, Int.reduceAdd, Int.reduceSub, Int.reduceMul, Int.reduceNeg, Int.reduceToNat]
          simp_all [checkB]
        · simp (config := { failIfUnchanged := false }) (disch := first | omega | (simp [wcs_len] <;> omega) | fail) only [go_sem, ↓reduceIte, reduceCtorEq, Nat.reduceEqDiff, Nat.reduceAdd, Nat.reduceMul, Nat.reduceSub, Nat.reduceLeDiff, Int.reduceEq, Int.reduceLT, Int.reduceLE, Int.reduceAdd, Int.reduceSub, Int.reduceMul, Int.reduceNeg, Int.reduceToNat]
          refine wp_loop' Nat (fun i => ⟨[(1, .ptr 1 0), (3, .int i)], [(1, ⟨[.int b.base, .int b.places, .sl 1 (b.cords.map SS) .sh, SS b.top], false⟩)], [], none⟩) (fun i => i ≤ b.cords.length ∧ ∀ x ∈ b.cords.take i, (!isCordB b x) = false) (fun i => b.cords.length - i) 0 (by simp) (by simp (config := { failIfUnchanged := false }) (disch := first | omega | (simp [wcs_len] <;> omega) | fail) only [go_sem, ↓reduceIte, reduceCtorEq, Nat.reduceEqDiff, Nat.reduceAdd, Nat.reduceMul, Nat.reduceSub, Nat.reduceLeDiff, Int.reduceEq, Int.reduceLT, Int.reduceLE, Int.reduceAdd, Int.reduceSub, Int.reduceMul, Int.reduceNeg, Int.reduceToNat]; rfl) ?_
          rintro i ⟨hi, hpre⟩
          have hcl := hs.cords
          simp (config := { failIfUnchanged := false }) (disch := first | omega | (simp [wcs_len] <;> omega) | fail) only [go_sem, ↓reduceIte, reduceCtorEq, Nat.reduceEqDiff, Nat.reduceAdd, Nat.reduceMul, Nat.reduceSub, Nat.reduceLeDiff, Int.reduceEq, Int.reduceLT, Int.reduceLE, Int.reduceAdd, Int.reduceSub, Int.reduceMul, Int.reduceNeg, Int.reduceToNat]
          refine wcond_dec (fun h5 => ?_) (fun h5 => ?_)
          · have hlt : i < b.cords.length := by omega
            simp (config := { failIfUnchanged := false }) (disch := first | omega | (simp [wcs_len] <;> omega) | fail) only [go_sem, ↓reduceIte, reduceCtorEq, Nat.reduceEqDiff, Nat.reduceAdd, Nat.reduceMul, Nat.reduceSub, Nat.reduceLeDiff, Int.reduceEq, Int.reduceLT, Int.reduceLE, Int.reduceAdd, Int.reduceSub, Int.reduceMul, Int.reduceNeg, Int.reduceToNat]
            refine wcall (c93 b _ hb (hs.each _ (mem_getD hlt))) ?_
            simp (config := { failIfUnchanged := false }) (disch := first | omega | (simp [wcs_len] <;> omega) | fail) only [go_sem, ↓reduceIte, reduceCtorEq, Nat.reduceEqDiff, Nat.reduceAdd, Nat.reduceMul, Nat.reduceSub, Nat.reduceLeDiff, Int.reduceEq, Int.reduceLT, Int.reduceLE, Int.reduceAdd, Int.reduceSub, Int.reduceMul, Int.reduceNeg, Int.reduceToNat]
            refine wcond_bool (fun h6 => ?_) (fun h6 => ?_)
            · simp (config := { failIfUnchanged := false }) (disch := first | omega | (simp [wcs_len] <;> omega) | fail) only [go_sem, ↓reduceIte, reduceCtorEq, Nat.reduceEqDiff, Nat.reduceAdd, Nat.reduceMul, Nat.reduceSub, Nat.reduceLeDiff, Int.reduceEq, Int.reduceLT, Int.reduceLE, Int.reduceAdd, Int.reduceSub, Int.reduceMul, Int.reduceNeg, Int.reduceToNat]
              have : b.cords.any (fun l => !isCordB b l) = true := List.any_eq_true.2 ⟨_, mem_getD hlt, h6⟩
              have hc : checkB b = false := by
                simp only [checkB, this]
                simp
              simp [hc]
            · simp (config := { failIfUnchanged := false }) (disch := first | omega | (simp [wcs_len] <;> omega) | fail) only [go_sem, ↓reduceIte, reduceCtorEq, Nat.reduceEqDiff, Nat.reduceAdd, Nat.reduceMul, Nat.reduceSub, Nat.reduceLeDiff, Int.reduceEq, Int.reduceLT, Int.reduceLE, Int.reduceAdd, Int.reduceSub, Int.reduceMul, Int.reduceNeg, Int.reduceToNat]
              refine ⟨i + 1, ⟨by omega, take_succ_all (p := fun x => !isCordB b x) hlt hpre h6⟩, by dsimp only; omega, ?_⟩
              simp (config := { failIfUnchanged := false }) (disch := first | omega | (simp [wcs_len] <;> omega) | fail) only [go_sem, ↓reduceIte, reduceCtorEq, Nat.reduceEqDiff, Nat.reduceAdd, Nat.reduceMul, Nat.reduceSub, Nat.reduceLeDiff, Int.reduceEq, Int.reduceLT, Int.reduceLE, Int.reduceAdd, Int.reduceSub, Int.reduceMul, Int.reduceNeg, Int.reduceToNat]
              simp
          · simp (config := { failIfUnchanged := false }) (disch := first | omega | (simp [wcs_len] <;> omega) | fail) only [go_sem, ↓reduceIte, reduceCtorEq, Nat.reduceEqDiff, Nat.reduceAdd, Nat.reduceMul, Nat.reduceSub, Nat.reduceLeDiff, Int.reduceEq, Int.reduceLT, Int.reduceLE, Int.reduceAdd, Int.reduceSub, Int.reduceMul, Int.reduceNeg, Int.reduceToNat]
            have e : i = b.cords.length := by omega
            rw [e, List.take_length] at hpre
            have : b.cords.any (fun l => !isCordB b l) = false := List.any_eq_false.2 fun x hx => by simp [hpre x hx]
            have hc : checkB b = true := by
              simp only [checkB, this]
              simp at h1 h2 h3 h4
              simp [h1, h2, h3, h4]
            simp [hc]
      · simp (config := { failIfUnchanged := false }) (disch := first | omega | (simp [wcs_len] <;> omega) | fail) only [go_sem, ↓reduceIte, reduceCtorEq, Nat.reduceEqDiff, Nat.reduceAdd, Nat.reduceMul, Nat.reduceSub, Nat.reduceLeDiff, Int.reduceEq, Int.reduceLT, Int.reduceLE, Int.reduceAdd, Int.reduceSub, Int.reduceMul, Int.reduceNeg, Int.reduceToNat, h3]
        simp_all [checkB]
        intro hc
        omega
    · simp (config := { failIfUnchanged := false }) (disch := first | omega | (simp [wcs_len] <;> omega) | fail) only [go_sem, ↓reduceIte, reduceCtorEq, Nat.reduceEqDiff, Nat.reduceAdd, Nat.reduceMul, Nat.reduceSub, Nat.reduceLeDiff, Int.reduceEq, Int.reduceLT, Int.reduceLE, Int.reduceAdd, Int.reduceSub, Int.reduceMul, Int.reduceNeg, Int.reduceToNat, h2]
      simp_all [checkB]
  · simp (config := { failIfUnchanged := false }) (disch := first | omega | (simp [wcs_len] <;> omega) | fail) only [go_sem, ↓reduceIte, reduceCtorEq, Nat.reduceEqDiff, Nat.reduceAdd, Nat.reduceMul, Nat.reduceSub, Nat.reduceLeDiff, Int.reduceEq, Int.reduceLT, Int.reduceLE, Int.reduceAdd, Int.reduceSub, Int.reduceMul, Int.reduceNeg, Int.reduceToNat, h1]
    simp_all [checkB]

theorem c95 (b : Bk) (hs : Small b) (is : Bool) : Ctr Try.prog 95 [KB b, .bool is] (.int (if checkB b then if is then 0 else 1 else 110)) := by
  refine ctr_of_wp hmix Try.func95 m95 rfl ?_
  unfold v95
  simp (config := { failIfUnchanged := false }) (disch := first | omega | (simp [wcs_len] <;> omega) | fail) only [go_sem, ↓reduceIte, reduceCtorEq, Nat.reduceEqDiff, Nat.reduceAdd, Nat.reduceMul, Nat.reduceSub, Nat.reduceLeDiff, Int.reduceEq, Int.reduceLT, Int.reduceLE, Int.reduceAdd, Int.reduceSub, Int.reduceMul, Int.reduceNeg, Int.reduceToNat]
  refine wcall (c50 b hs) ?_
  cases hc : checkB b with
  | false => simp (config := { failIfUnchanged := false }) (disch := first | omega | (simp [wcs_len] <;> omega) | fail) only [go_sem, ↓reduceIte, reduceCtorEq, Nat.reduceEqDiff, Nat.reduceAdd, Nat.reduceMul, Nat.reduceSub, Nat.reduceLeDiff, Int.reduceEq, Int.reduceLT, Int.reduceLE, Int.reduceAdd, Int.reduceSub, Int.reduceMul, Int.reduceNeg, Int.reduceToNat]
  | true =>
    cases is with
    | false => simp (config := { failIfUnchanged := false }) (disch := first | omega | (simp [wcs_len] <;> omega) | fail) only [go_sem, ↓reduceIte, reduceCtorEq, Nat.reduceEqDiff, Nat.reduceAdd, Nat.reduceMul, Nat.reduceSub, Nat.reduceLeDiff, Int.reduceEq, Int.reduceLT, Int.reduceLE, Int.reduceAdd, Int.reduceSub, Int.reduceMul, Int.reduceNeg, Int.reduceToNat]
    | true => simp (config := { failIfUnchanged := false }) (disch := first | omega | (simp [wcs_len] <;> omega) | fail) only [go_sem, ↓reduceIte, reduceCtorEq, Nat.reduceEqDiff, Nat.reduceAdd, Nat.reduceMul, Nat.reduceSub, Nat.reduceLeDiff, Int.reduceEq, Int.reduceLT, Int.reduceLE, Int.reduceAdd, Int.reduceSub, Int.reduceMul, Int.reduceNeg, Int.reduceToNat]

/-- How many numbers. -/
def allN (b : Bk) : Nat := b.base.toNat ^ b.places.toNat

theorem pow_le {B P : Nat} (hB : B ≤ 10) (hP : P ≤ 4) : B ^ P ≤ 10000 :=
  Nat.le_trans (Nat.pow_le_pow_left hB P) (Nat.le_trans (Nat.pow_le_pow_right (by omega) hP) (by decide))

theorem c41 (b : Bk) (hv : Val b) : Ctr Try.prog 41 [KB b] (.int (allN b)) := by
  refine ctr_of_wp hmix Try.func41 m41 rfl ?_
  unfold v41
  obtain ⟨hb1, hb2⟩ := hv.hb
  obtain ⟨hp1, hp2⟩ := hv.hp
  simp (config := { failIfUnchanged := false }) (disch := first | omega | (simp [wcs_len] <;> omega) | fail) only [go_sem, ↓reduceIte, reduceCtorEq, Nat.reduceEqDiff, Nat.reduceAdd, Nat.reduceMul, Nat.reduceSub, Nat.reduceLeDiff, Int.reduceEq, Int.reduceLT, Int.reduceLE, Int.reduceAdd, Int.reduceSub, Int.reduceMul, Int.reduceNeg, Int.reduceToNat]
  refine wp_loop' Nat (fun i => ⟨[(1, .ptr 1 0), (3, .int (b.base.toNat ^ i : Nat)), (4, .int i)], [(1, ⟨[.int b.base, .int b.places, .sl 1 (b.cords.map SS) .sh, SS b.top], false⟩)], [], none⟩) (fun i => i ≤ b.places.toNat) (fun i => b.places.toNat - i) 0 (by simp) (by simp (config := { failIfUnchanged := false }) (disch := first | omega | (simp [wcs_len] <;> omega) | fail) only [go_sem, ↓reduceIte, reduceCtorEq, Nat.reduceEqDiff, Nat.reduceAdd, Nat.reduceMul, Nat.reduceSub, Nat.reduceLeDiff, Int.reduceEq, Int.reduceLT, Int.reduceLE, Int.reduceAdd, Int.reduceSub, Int.reduceMul, Int.reduceNeg, Int.reduceToNat]; simp) ?_
  rintro i hi
  simp (config := { failIfUnchanged := false }) (disch := first | omega | (simp [wcs_len] <;> omega) | fail) only [go_sem, ↓reduceIte, reduceCtorEq, Nat.reduceEqDiff, Nat.reduceAdd, Nat.reduceMul, Nat.reduceSub, Nat.reduceLeDiff, Int.reduceEq, Int.reduceLT, Int.reduceLE, Int.reduceAdd, Int.reduceSub, Int.reduceMul, Int.reduceNeg, Int.reduceToNat]
  refine wcond_dec (fun h => ?_) (fun h => ?_)
  · have e : ((b.base.toNat ^ i : Nat) : Int) * b.base = ((b.base.toNat ^ (i + 1) : Nat) : Int) := by
      rw [Nat.pow_succ, Int.natCast_mul, Int.toNat_of_nonneg (by omega : 0 ≤ b.base)]
    have hle := pow_le (B := b.base.toNat) (P := i + 1) (by omega) (by omega)
    simp (config := { failIfUnchanged := false }) (disch := first | omega | (simp [wcs_len] <;> omega) | fail) only [go_sem, ↓reduceIte, reduceCtorEq, Nat.reduceEqDiff, Nat.reduceAdd, Nat.reduceMul, Nat.reduceSub, Nat.reduceLeDiff, Int.reduceEq, Int.reduceLT, Int.reduceLE, Int.reduceAdd, Int.reduceSub, Int.reduceMul, Int.reduceNeg, Int.reduceToNat, e]
    refine ⟨i + 1, by omega, by dsimp only; omega, ?_⟩
    simp (config := { failIfUnchanged := false }) (disch := first | omega | (simp [wcs_len] <;> omega) | fail) only [go_sem, ↓reduceIte, reduceCtorEq, Nat.reduceEqDiff, Nat.reduceAdd, Nat.reduceMul, Nat.reduceSub, Nat.reduceLeDiff, Int.reduceEq, Int.reduceLT, Int.reduceLE, Int.reduceAdd, Int.reduceSub, Int.reduceMul, Int.reduceNeg, Int.reduceToNat]
    simp
  · simp (config := { failIfUnchanged := false }) (disch := first | omega | (simp [wcs_len] <;> omega) | fail) only [go_sem, ↓reduceIte, reduceCtorEq, Nat.reduceEqDiff, Nat.reduceAdd, Nat.reduceMul, Nat.reduceSub, Nat.reduceLeDiff, Int.reduceEq, Int.reduceLT, Int.reduceLE, Int.reduceAdd, Int.reduceSub, Int.reduceMul, Int.reduceNeg, Int.reduceToNat]
    have e : i = b.places.toNat := by omega
    rw [e]
    rfl

end Go.Proofs.Ytkkiipjfbebipaa

/- The reference: digits, numbers, readings. -/
set_option linter.unusedSimpArgs false
set_option linter.unusedVariables false
set_option linter.unnecessarySimpa false
namespace Go.Proofs.Ytkkiipjfbebipaa
open Go Go.V

def areDig (b : Bk) (l : List Int) : Bool := decide ((l.length : Int) = b.places) && !l.any (fun d => !within d 0 (w64 (b.base - 1)))

theorem c43 (b : Bk) (l : List Int) (hl : l.length < 4294967296) : Ctr Try.prog 43 [KB b, IS l] (.bool (areDig b l)) := by
  refine ctr_of_wp hmix Try.func43 m43 rfl ?_
  unfold v43 IS
  simp (config := { failIfUnchanged := false }) (disch := first | omega | (simp [wcs_len] <;> omega) | fail) only [go_sem, ↓reduceIte, reduceCtorEq, Nat.reduceEqDiff, Nat.reduceAdd, Nat.reduceMul, Nat.reduceSub, Nat.reduceLeDiff, Int.reduceEq, Int.reduceLT, Int.reduceLE, Int.reduceAdd, Int.reduceSub, Int.reduceMul, Int.reduceNeg, Int.reduceToNat]
  refine wcond_dec (fun h => ?_) (fun h => ?_)
  · simp (config := { failIfUnchanged := false }) (disch := first | omega | (simp [wcs_len] <;> omega) | fail) only [go_sem, ↓reduceIte, reduceCtorEq, Nat.reduceEqDiff, Nat.reduceAdd, Nat.reduceMul, Nat.reduceSub, Nat.reduceLeDiff, Int.reduceEq, Int.reduceLT, Int.reduceLE, Int.reduceAdd, Int.reduceSub, Int.reduceMul, Int.reduceNeg, Int.reduceToNat]
    simp [areDig, h]
  · simp only [Decidable.not_not] at h
    simp (config := { failIfUnchanged := false }) (disch := first | omega | (simp [wcs_len] <;> omega) | fail) only [go_sem, ↓reduceIte, reduceCtorEq, Nat.reduceEqDiff, Nat.reduceAdd, Nat.reduceMul, Nat.reduceSub, Nat.reduceLeDiff, Int.reduceEq, Int.reduceLT, Int.reduceLE, Int.reduceAdd, Int.reduceSub, Int.reduceMul, Int.reduceNeg, Int.reduceToNat]
    refine wp_loop' Nat (fun i => ⟨[(1, IS l), (2, .ptr 2 0), (5, .int i)], [(2, ⟨[.int b.base, .int b.places, .sl 1 (b.cords.map SS) .sh, SS b.top], false⟩)], [], none⟩) (fun i => i ≤ l.length ∧ ∀ x ∈ l.take i, (!within x 0 (w64 (b.base - 1))) = false) (fun i => l.length - i) 0 (by simp) (by unfold IS; simp (config := { failIfUnchanged := false }) (disch := first | omega | (simp [wcs_len] <;> omega) | fail) only [go_sem, ↓reduceIte, reduceCtorEq, Nat.reduceEqDiff, Nat.reduceAdd, Nat.reduceMul, Nat.reduceSub, Nat.reduceLeDiff, Int.reduceEq, Int.reduceLT, Int.reduceLE, Int.reduceAdd, Int.reduceSub, Int.reduceMul, Int.reduceNeg, Int.reduceToNat]; rfl) ?_
    rintro i ⟨hi, hpre⟩
    unfold IS
    simp (config := { failIfUnchanged := false }) (disch := first | omega | (simp [wcs_len] <;> omega) | fail) only [go_sem, ↓reduceIte, reduceCtorEq, Nat.reduceEqDiff, Nat.reduceAdd, Nat.reduceMul, Nat.reduceSub, Nat.reduceLeDiff, Int.reduceEq, Int.reduceLT, Int.reduceLE, Int.reduceAdd, Int.reduceSub, Int.reduceMul, Int.reduceNeg, Int.reduceToNat]
    refine wcond_dec (fun h2 => ?_) (fun h2 => ?_)
    · have hlt : i < l.length := by omega
      simp (config := { failIfUnchanged := false }) (disch := first | omega | (simp [wcs_len] <;> omega) | fail) only [go_sem, ↓reduceIte, reduceCtorEq, Nat.reduceEqDiff, Nat.reduceAdd, Nat.reduceMul, Nat.reduceSub, Nat.reduceLeDiff, Int.reduceEq, Int.reduceLT, Int.reduceLE, Int.reduceAdd, Int.reduceSub, Int.reduceMul, Int.reduceNeg, Int.reduceToNat]
      refine wcall (c76 _ _ _) ?_
      simp (config := { failIfUnchanged := false }) (disch := first | omega | (simp [wcs_len] <;> omega) | fail) only [go_sem, ↓reduceIte, reduceCtorEq, Nat.reduceEqDiff, Nat.reduceAdd, Nat.reduceMul, Nat.reduceSub, Nat.reduceLeDiff, Int.reduceEq, Int.reduceLT, Int.reduceLE, Int.reduceAdd, Int.reduceSub, Int.reduceMul, Int.reduceNeg, Int.reduceToNat]
      refine wcond_bool (fun h4 => ?_) (fun h4 => ?_)
      · simp (config := { failIfUnchanged := false }) (disch := first | omega | (simp [wcs_len] <;> omega) | fail) only [go_sem, ↓reduceIte, reduceCtorEq, Nat.reduceEqDiff, Nat.reduceAdd, Nat.reduceMul, Nat.reduceSub, Nat.reduceLeDiff, Int.reduceEq, Int.reduceLT, Int.reduceLE, Int.reduceAdd, Int.reduceSub, Int.reduceMul, Int.reduceNeg, Int.reduceToNat]
        have : l.any (fun d => !within d 0 (w64 (b.base - 1))) = true := List.any_eq_true.2 ⟨_, mem_getD hlt, h4⟩
        simp only [areDig, this]
        simp
      · simp (config := { failIfUnchanged := false }) (disch := first | omega | (simp [wcs_len] <;> omega) | fail) only [go_sem, ↓reduceIte, reduceCtorEq, Nat.reduceEqDiff, Nat.reduceAdd, Nat.reduceMul, Nat.reduceSub, Nat.reduceLeDiff, Int.reduceEq, Int.reduceLT, Int.reduceLE, Int.reduceAdd, Int.reduceSub, Int.reduceMul, Int.reduceNeg, Int.reduceToNat]
        refine ⟨i + 1, ⟨by omega, take_succ_all (p := fun d => !within d 0 (w64 (b.base - 1))) hlt hpre h4⟩, by dsimp only; omega, ?_⟩
        simp (config := { failIfUnchanged := false }) (disch := first | omega | (simp [wcs_len] <;> omega) | fail) only [go_sem, ↓reduceIte, reduceCtorEq, Nat.reduceEqDiff, Nat.reduceAdd, Nat.reduceMul, Nat.reduceSub, Nat.reduceLeDiff, Int.reduceEq, Int.reduceLT, Int.reduceLE, Int.reduceAdd, Int.reduceSub, Int.reduceMul, Int.reduceNeg, Int.reduceToNat]
        simp
    · simp (config := { failIfUnchanged := false }) (disch := first | omega | (simp [wcs_len] <;> omega) | fail) only [go_sem, ↓reduceIte, reduceCtorEq, Nat.reduceEqDiff, Nat.reduceAdd, Nat.reduceMul, Nat.reduceSub, Nat.reduceLeDiff, Int.reduceEq, Int.reduceLT, Int.reduceLE, Int.reduceAdd, Int.reduceSub, Int.reduceMul, Int.reduceNeg, Int.reduceToNat]
      have e : i = l.length := by omega
      rw [e, List.take_length] at hpre
      have : l.any (fun d => !within d 0 (w64 (b.base - 1))) = false := List.any_eq_false.2 fun x hx => by simp [hpre x hx]
      simp only [areDig, this]
      simp [h]

theorem c46 (b : Bk) (l : List Int) (hl : l.length < 4294967296) : Ctr Try.prog 46 [KB b, IS l] (.int (numL b.base l)) := by
  refine ctr_of_wp hmix Try.func46 m46 rfl ?_
  unfold v46 IS
  simp (config := { failIfUnchanged := false }) (disch := first | omega | (simp [wcs_len] <;> omega) | fail) only [go_sem, ↓reduceIte, reduceCtorEq, Nat.reduceEqDiff, Nat.reduceAdd, Nat.reduceMul, Nat.reduceSub, Nat.reduceLeDiff, Int.reduceEq, Int.reduceLT, Int.reduceLE, Int.reduceAdd, Int.reduceSub, Int.reduceMul, Int.reduceNeg, Int.reduceToNat]
  refine wp_loop' (Nat × Int) (fun x => ⟨[(1, IS l), (2, .ptr 2 0), (5, .int x.2), (6, .int x.1)], [(2, ⟨[.int b.base, .int b.places, .sl 1 (b.cords.map SS) .sh, SS b.top], false⟩)], [], none⟩) (fun x => x.1 ≤ l.length ∧ x.2 = numL b.base (l.take x.1)) (fun x => l.length - x.1) (0, 0) (by simp [numL]) (by unfold IS; simp (config := { failIfUnchanged := false }) (disch := first | omega | (simp [wcs_len] <;> omega) | fail) only [go_sem, ↓reduceIte, reduceCtorEq, Nat.reduceEqDiff, Nat.reduceAdd, Nat.reduceMul, Nat.reduceSub, Nat.reduceLeDiff, Int.reduceEq, Int.reduceLT, Int.reduceLE, Int.reduceAdd, Int.reduceSub, Int.reduceMul, Int.reduceNeg, Int.reduceToNat]; simp) ?_
  rintro ⟨i, n⟩ ⟨hi, hn⟩
  dsimp only at hi hn ⊢
  unfold IS
  simp (config := { failIfUnchanged := false }) (disch := first | omega | (simp [wcs_len] <;> omega) | fail) only [go_sem, ↓reduceIte, reduceCtorEq, Nat.reduceEqDiff, Nat.reduceAdd, Nat.reduceMul, Nat.reduceSub, Nat.reduceLeDiff, Int.reduceEq, Int.reduceLT, Int.reduceLE, Int.reduceAdd, Int.reduceSub, Int.reduceMul, Int.reduceNeg, Int.reduceToNat]
  refine wcond_dec (fun h => ?_) (fun h => ?_)
  · have hlt : i < l.length := by omega
    simp (config := { failIfUnchanged := false }) (disch := first | omega | (simp [wcs_len] <;> omega) | fail) only [go_sem, ↓reduceIte, reduceCtorEq, Nat.reduceEqDiff, Nat.reduceAdd, Nat.reduceMul, Nat.reduceSub, Nat.reduceLeDiff, Int.reduceEq, Int.reduceLT, Int.reduceLE, Int.reduceAdd, Int.reduceSub, Int.reduceMul, Int.reduceNeg, Int.reduceToNat]
    refine ⟨(i + 1, numL b.base (l.take (i + 1))), ⟨by omega, rfl⟩, by dsimp only; omega, ?_⟩
    have e : numL b.base (l.take (i + 1)) = w64 (w64 (n * b.base) + l[i]?.getD default) := by
      rw [hn]
      unfold numL
      rw [List.take_add_one, List.getElem?_eq_getElem hlt, List.foldl_append]
      rfl
    rw [e]
    simp (config := { failIfUnchanged := false }) (disch := first | omega | (simp [wcs_len] <;> omega) | fail) only [go_sem, ↓reduceIte, reduceCtorEq, Nat.reduceEqDiff, Nat.reduceAdd, Nat.reduceMul, Nat.reduceSub, Nat.reduceLeDiff, Int.reduceEq, Int.reduceLT, Int.reduceLE, Int.reduceAdd, Int.reduceSub, Int.reduceMul, Int.reduceNeg, Int.reduceToNat]
    simp
  · simp (config := { failIfUnchanged := false }) (disch := first | omega | (simp [wcs_len] <;> omega) | fail) only [go_sem, ↓reduceIte, reduceCtorEq, Nat.reduceEqDiff, Nat.reduceAdd, Nat.reduceMul, Nat.reduceSub, Nat.reduceLeDiff, Int.reduceEq, Int.reduceLT, Int.reduceLE, Int.reduceAdd, Int.reduceSub, Int.reduceMul, Int.reduceNeg, Int.reduceToNat]
    have e : i = l.length := by omega
    rw [hn, e, List.take_length]

/-- The cord, the top one too. -/
def cordAt (b : Bk) (n : Nat) : List Sp := if n = b.cords.length then b.top else b.cords[n]?.getD default

theorem c32 (b : Bk) (n : Nat) (hn : n ≤ b.cords.length) : Ctr Try.prog 32 [KB b, .int n] (SS (cordAt b n)) := by
  refine ctr_of_wp hmix Try.func32 m32 rfl ?_
  unfold v32
  simp (config := { failIfUnchanged := false }) (disch := first | omega | (simp [wcs_len] <;> omega) | fail) only [go_sem, ↓reduceIte, reduceCtorEq, Nat.reduceEqDiff, Nat.reduceAdd, Nat.reduceMul, Nat.reduceSub, Nat.reduceLeDiff, Int.reduceEq, Int.reduceLT, Int.reduceLE, Int.reduceAdd, Int.reduceSub, Int.reduceMul, Int.reduceNeg, Int.reduceToNat]
  refine wcond_dec (fun h => ?_) (fun h => ?_)
  · simp (config := { failIfUnchanged := false }) (disch := first | omega | (simp [wcs_len] <;> omega) | fail) only [go_sem, ↓reduceIte, reduceCtorEq, Nat.reduceEqDiff, Nat.reduceAdd, Nat.reduceMul, Nat.reduceSub, Nat.reduceLeDiff, Int.reduceEq, Int.reduceLT, Int.reduceLE, Int.reduceAdd, Int.reduceSub, Int.reduceMul, Int.reduceNeg, Int.reduceToNat]
    have e : n = b.cords.length := by omega
    simp [cordAt, e]
  · have e : ¬ n = b.cords.length := by omega
    have hlt : n < b.cords.length := by omega
    simp (config := { failIfUnchanged := false }) (disch := first | omega | (simp [wcs_len] <;> omega) | fail) only [go_sem, ↓reduceIte, reduceCtorEq, Nat.reduceEqDiff, Nat.reduceAdd, Nat.reduceMul, Nat.reduceSub, Nat.reduceLeDiff, Int.reduceEq, Int.reduceLT, Int.reduceLE, Int.reduceAdd, Int.reduceSub, Int.reduceMul, Int.reduceNeg, Int.reduceToNat]
    simp [cordAt, e]

def fitsL (l : List Sp) (ds : List Int) : Bool := (List.range l.length).all fun i => within (ds[i]?.getD default) (l[i]?.getD default).lo (l[i]?.getD default).hi

theorem c99 (l : List Sp) (ds : List Int) (h1 : l.length < 4294967296) (h2 : l.length ≤ ds.length) : Ctr Try.prog 99 [SS l, IS ds] (.bool (fitsL l ds)) := by
  refine ctr_of_wp hmix Try.func99 m99 rfl ?_
  unfold v99 IS
  simp (config := { failIfUnchanged := false }) (disch := first | omega | (simp [wcs_len] <;> omega) | fail) only [go_sem, ↓reduceIte, reduceCtorEq, Nat.reduceEqDiff, Nat.reduceAdd, Nat.reduceMul, Nat.reduceSub, Nat.reduceLeDiff, Int.reduceEq, Int.reduceLT, Int.reduceLE, Int.reduceAdd, Int.reduceSub, Int.reduceMul, Int.reduceNeg, Int.reduceToNat]
  refine wp_loop' Nat (fun i => ⟨[(0, SS l), (1, IS ds), (5, .int i)], [], [], none⟩) (fun i => i ≤ l.length ∧ ∀ j, j < i → within (ds[j]?.getD default) (l[j]?.getD default).lo (l[j]?.getD default).hi = true) (fun i => l.length - i) 0 ⟨by simp, fun j hj => by omega⟩ (by unfold IS; simp (config := { failIfUnchanged := false }) (disch := first | omega | (simp [wcs_len] <;> omega) | fail) only [go_sem, ↓reduceIte, reduceCtorEq, Nat.reduceEqDiff, Nat.reduceAdd, Nat.reduceMul, Nat.reduceSub, Nat.reduceLeDiff, Int.reduceEq, Int.reduceLT, Int.reduceLE, Int.reduceAdd, Int.reduceSub, Int.reduceMul, Int.reduceNeg, Int.reduceToNat]; rfl) ?_
  rintro i ⟨hi, hpre⟩
  unfold IS
  simp (config := { failIfUnchanged := false }) (disch := first | omega | (simp [wcs_len] <;> omega) | fail) only [go_sem, ↓reduceIte, reduceCtorEq, Nat.reduceEqDiff, Nat.reduceAdd, Nat.reduceMul, Nat.reduceSub, Nat.reduceLeDiff, Int.reduceEq, Int.reduceLT, Int.reduceLE, Int.reduceAdd, Int.reduceSub, Int.reduceMul, Int.reduceNeg, Int.reduceToNat]
  refine wcond_dec (fun h => ?_) (fun h => ?_)
  · have hlt : i < l.length := by omega
    simp (config := { failIfUnchanged := false }) (disch := first | omega | (simp [wcs_len] <;> omega) | fail) only [go_sem, ↓reduceIte, reduceCtorEq, Nat.reduceEqDiff, Nat.reduceAdd, Nat.reduceMul, Nat.reduceSub, Nat.reduceLeDiff, Int.reduceEq, Int.reduceLT, Int.reduceLE, Int.reduceAdd, Int.reduceSub, Int.reduceMul, Int.reduceNeg, Int.reduceToNat]
    refine wcall (c76 _ _ _) ?_
    simp (config := { failIfUnchanged := false }) (disch := first | omega | (simp [wcs_len] <;> omega) | fail) only [go_sem, ↓reduceIte, reduceCtorEq, Nat.reduceEqDiff, Nat.reduceAdd, Nat.reduceMul, Nat.reduceSub, Nat.reduceLeDiff, Int.reduceEq, Int.reduceLT, Int.reduceLE, Int.reduceAdd, Int.reduceSub, Int.reduceMul, Int.reduceNeg, Int.reduceToNat]
    refine wcond_bool (fun h4 => ?_) (fun h4 => ?_)
    · simp (config := { failIfUnchanged := false }) (disch := first | omega | (simp [wcs_len] <;> omega) | fail) only [go_sem, ↓reduceIte, reduceCtorEq, Nat.reduceEqDiff, Nat.reduceAdd, Nat.reduceMul, Nat.reduceSub, Nat.reduceLeDiff, Int.reduceEq, Int.reduceLT, Int.reduceLE, Int.reduceAdd, Int.reduceSub, Int.reduceMul, Int.reduceNeg, Int.reduceToNat]
      have : fitsL l ds = false := by
        unfold fitsL
        rw [List.all_eq_false]
        exact ⟨i, by simpa using hlt, by simpa using h4⟩
      rw [this]
    · simp (config := { failIfUnchanged := false }) (disch := first | omega | (simp [wcs_len] <;> omega) | fail) only [go_sem, ↓reduceIte, reduceCtorEq, Nat.reduceEqDiff, Nat.reduceAdd, Nat.reduceMul, Nat.reduceSub, Nat.reduceLeDiff, Int.reduceEq, Int.reduceLT, Int.reduceLE, Int.reduceAdd, Int.reduceSub, Int.reduceMul, Int.reduceNeg, Int.reduceToNat]
      refine ⟨i + 1, ⟨by omega, fun j hj => ?_⟩, by dsimp only; omega, ?_⟩
      · rcases Nat.lt_or_ge j i with hj2 | hj2
        · exact hpre j hj2
        · have : j = i := by omega
          subst this
          simpa using h4
      · simp (config := { failIfUnchanged := false }) (disch := first | omega | (simp [wcs_len] <;> omega) | fail) only [go_sem, ↓reduceIte, reduceCtorEq, Nat.reduceEqDiff, Nat.reduceAdd, Nat.reduceMul, Nat.reduceSub, Nat.reduceLeDiff, Int.reduceEq, Int.reduceLT, Int.reduceLE, Int.reduceAdd, Int.reduceSub, Int.reduceMul, Int.reduceNeg, Int.reduceToNat]
        simp
  · simp (config := { failIfUnchanged := false }) (disch := first | omega | (simp [wcs_len] <;> omega) | fail) only [go_sem, ↓reduceIte, reduceCtorEq, Nat.reduceEqDiff, Nat.reduceAdd, Nat.reduceMul, Nat.reduceSub, Nat.reduceLeDiff, Int.reduceEq, Int.reduceLT, Int.reduceLE, Int.reduceAdd, Int.reduceSub, Int.reduceMul, Int.reduceNeg, Int.reduceToNat]
    have e : i = l.length := by omega
    have : fitsL l ds = true := by
      unfold fitsL
      rw [List.all_eq_true]
      intro j hj
      exact hpre j (by rw [e]; simpa using hj)
    rw [this]

end Go.Proofs.Ytkkiipjfbebipaa
