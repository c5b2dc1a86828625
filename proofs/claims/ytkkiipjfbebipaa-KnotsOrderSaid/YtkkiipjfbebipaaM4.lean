/- Merged by program: Code, T1, T2, T3, T4, T5, T6, T7, T8, T9, T10, T11, T12, T13, T14, T15, T16, T17, T18, T19, T20, T21, T22, T23, T24, T25, T26, T28. -/
import Derived.Test.YtkkiipjfbebipaaM3
import Derived.Test.YtkkiipjfbebipaaProg
import Derived.ProofKit
/- The compact code of the functions, and that it is theirs. -/
namespace Go.Proofs.Ytkkiipjfbebipaa
open Go Go.V
set_option maxRecDepth 100000

/-- steening/steeninglaw11.Example -/
def v63 : VC :=
 (.seq
 (.ops false [
   ⟨some 0, .alloc 0 [.int 0, .int 0, .sl 1 [] .full, .sl 2 [] .full], none⟩,
   ⟨some 1, .alloc 1 [.int 0, .int 0, .sl 1 [] .full, .sl 2 [] .full], none⟩] (some [0, 1]))
 (.seq
 (.ops false [
   ⟨some 2, .build [.int 0, .int 0] [(0, 1, .k (.int 1)), (1, 1, .k (.int 1))], none⟩,
   ⟨some 3, .build [.int 0, .int 0] [(0, 1, .k (.int 2)), (1, 1, .k (.int 3))], none⟩,
   ⟨some 4, .bslice 2 [.t 2, .t 3], none⟩,
   ⟨some 5, .build [.int 0, .int 0] [(1, 1, .k (.int 1))], none⟩,
   ⟨some 6, .build [.int 0, .int 0] [(0, 1, .k (.int 5)), (1, 1, .k (.int 5))], none⟩,
   ⟨some 7, .bslice 2 [.t 5, .t 6], none⟩,
   ⟨some 8, .bslice 1 [.t 4, .t 7], none⟩,
   ⟨some 9, .build [.int 0, .int 0] [(0, 1, .k (.int 2)), (1, 1, .k (.int 2))], none⟩,
   ⟨some 10, .build [.int 0, .int 0] [(0, 1, .k (.int 7)), (1, 1, .k (.int 8))], none⟩,
   ⟨some 11, .bslice 2 [.t 9, .t 10], none⟩,
   ⟨some 12, .build [.int 0, .int 0, .sl 1 [] .sh, .sl 2 [] .sh] [(0, 1, .k (.int 10)), (1, 1, .k (.int 2)), (2, 1, .t 8), (3, 1, .t 11)], none⟩,
   ⟨none, .store 4 (.t 0) (.t 12) (some 0), none⟩] (some [0, 1]))
 (.seq
 (.ops false [
   ⟨some 13, .build [.int 0, .int 0] [(0, 1, .k (.int 3)), (1, 1, .k (.int 3))], none⟩,
   ⟨some 14, .bslice 2 [.t 13], none⟩,
   ⟨some 15, .build [.int 0, .int 0] [(0, 1, .k (.int 4)), (1, 1, .k (.int 4))], none⟩,
   ⟨some 16, .bslice 2 [.t 15], none⟩,
   ⟨some 17, .bslice 1 [.t 14, .t 16], none⟩,
   ⟨some 18, .build [.int 0, .int 0] [(0, 1, .k (.int 9)), (1, 1, .k (.int 9))], none⟩,
   ⟨some 19, .bslice 2 [.t 18], none⟩,
   ⟨some 20, .build [.int 0, .int 0, .sl 1 [] .sh, .sl 2 [] .sh] [(0, 1, .k (.int 10)), (1, 1, .k (.int 1)), (2, 1, .t 17), (3, 1, .t 19)], none⟩,
   ⟨none, .store 4 (.t 1) (.t 20) (some 1), none⟩] (some [0, 1]))
 (.seq
 (.ops true [
   ⟨some 21, .load 4 true (.t 0) [1], none⟩,
   ⟨some 22, .load 4 true (.t 1) [0], none⟩,
   ⟨none, .store 4 (.t 0) (.t 21) (some 0), none⟩,
   ⟨none, .store 4 (.t 1) (.t 22) (some 1), none⟩] (some [0, 1]))
 .ret))))

theorem m63 : fmatch Try.prog Try.f63 0 [.cell 0 25, .cell 1 25] v63 = true := by kernel_rfl

/-- steening/knots.weave -/
def v64 : VC :=
 (.seq
 (.ops false [
   ⟨some 1, .box 1 4 (.t 0), none⟩,
   ⟨some 2, .alloc 2 [.int 0, .int 0, .sl 1 [] .full, .sl 2 [] .full, .und, .und], none⟩] (some [1, 2]))
 (.seq
 (.ops false [
   ⟨some 3, .load 4 true (.t 1) [], none⟩,
   ⟨some 4, .build [.int 0, .int 0, .sl 1 [] .sh, .sl 2 [] .sh, .und, .und] [(0, 4, .t 3), (4, 1, .k (.clo 100 [] [])), (5, 1, .k (.clo 101 [] []))], none⟩,
   ⟨none, .store 6 (.t 2) (.t 4) (some 2), none⟩] (some [2]))
 .ret))

theorem m64 : fmatch Try.prog Try.f64 1 [.cell 2 74] v64 = true := by kernel_rfl

/-- (steening/knots.loom).many -/
def v65 : VC :=
 (.seq
 (.ops false [
   ⟨some 1, .box 1 6 (.t 0), none⟩,
   ⟨some 2, .mov (.k (.int 0)), none⟩] (some [1]))
 (.seq
 (.ops false [
   ⟨some 3, .load 6 true (.t 1) [], none⟩,
   ⟨some 4, .call 71 [.t 3], none⟩,
   ⟨some 5, .fieldV 1 1 false (.t 4), none⟩,
   ⟨some 2, .mov (.t 5), none⟩] (some [2]))
 .ret))

theorem m65 : fmatch Try.prog Try.f65 1 [.tmp 2] v65 = true := by kernel_rfl

/-- steening/knots.all -/
def v66 : VC :=
 (.seq
 (.ops false [
   ⟨some 1, .box 1 4 (.t 0), none⟩,
   ⟨some 2, .nils 2 1, none⟩] (some [1]))
 (.seq
 (.ops true [
   ⟨some 3, .fld 2 (.t 1), none⟩,
   ⟨some 4, .load 1 false (.t 3) [], none⟩,
   ⟨some 5, .fld 2 (.t 1), none⟩,
   ⟨some 6, .load 1 false (.t 5) [], none⟩,
   ⟨some 7, .len (.t 6), none⟩,
   ⟨some 8, .fld 2 (.t 1), none⟩,
   ⟨some 9, .load 1 false (.t 8) [], none⟩,
   ⟨some 10, .len (.t 9), none⟩,
   ⟨some 11, .sliceF 1 (.t 4) none (some (.t 7)) (some (.t 10)), none⟩,
   ⟨some 12, .fld 3 (.t 1), none⟩,
   ⟨some 13, .load 1 false (.t 12) [], none⟩,
   ⟨some 14, .bslice 1 [.t 13], none⟩,
   ⟨some 15, .app 15 1 24 (.t 11) (.t 14), none⟩,
   ⟨some 2, .mov (.t 15), none⟩] (some [2]))
 .ret))

theorem m66 : fmatch Try.prog Try.f66 1 [.tmp 2] v66 = true := by kernel_rfl

/-- (steening/knots.loom).digits -/
def v67 : VC :=
 (.seq
 (.ops false [
   ⟨some 3, .box 3 6 (.t 0), none⟩,
   ⟨some 4, .box 4 1 (.t 1), none⟩,
   ⟨some 5, .box 5 1 (.t 2), none⟩,
   ⟨some 6, .mov (.k .und), none⟩] (some [3, 4, 5]))
 (.seq
 (.ops false [
   ⟨some 7, .mkf 102 [.t 3, .t 4, .t 5], none⟩,
   ⟨some 6, .mov (.t 7), none⟩] (some [6]))
 .ret))

theorem m67 : fmatch Try.prog Try.f67 3 [.tmp 6] v67 = true := by kernel_rfl

/-- steening/steeningref11.sums -/
def v68 : VC :=
 (.seq
 (.ops false [
   ⟨some 3, .box 3 4 (.t 0), none⟩,
   ⟨some 6, .nils 6 1, none⟩] (some [1, 2, 3]))
 (.seq
 (.seq
 (.ops false [
   ⟨some 11, .mov (.t 1), none⟩,
   ⟨some 12, .len (.t 11), none⟩,
   ⟨some 13, .fld 2 (.t 3), none⟩,
   ⟨some 14, .load 1 false (.t 13) [], none⟩,
   ⟨some 15, .len (.t 14), none⟩,
   ⟨some 16, .bin .eql (.t 12) (.t 15), none⟩] (some [1, 2, 3, 16]))
 (.cond (.t 16)
  (.seq
  (.ops false [
    ⟨some 17, .mov (.t 1), none⟩,
    ⟨some 18, .call 103 [.t 17], none⟩,
    ⟨some 7, .mov (.t 18), none⟩] (some [1, 2, 3, 7]))
  (.seq
  (.seq
  (.ops true [
    ⟨some 19, .mov (.t 7), none⟩,
    ⟨some 20, .load 4 true (.t 3) [], none⟩,
    ⟨some 21, .call 41 [.t 20], none⟩,
    ⟨some 22, .bin .geq (.t 19) (.t 21), none⟩,
    ⟨some 23, .mov (.t 22), none⟩,
    ⟨some 24, .mov (.t 2), some (23, false)⟩,
    ⟨some 25, .not (.t 24), some (23, false)⟩,
    ⟨some 26, .mov (.t 25), some (23, false)⟩,
    ⟨some 27, .fld 3 (.t 3), some (26, true)⟩,
    ⟨some 28, .load 1 false (.t 27) [], some (26, true)⟩,
    ⟨some 29, .load 4 true (.t 3) [], some (26, true)⟩,
    ⟨some 30, .mov (.t 7), some (26, true)⟩,
    ⟨some 31, .call 69 [.t 29, .t 30], some (26, true)⟩,
    ⟨some 32, .call 99 [.t 28, .t 31], some (26, true)⟩,
    ⟨some 33, .not (.t 32), some (26, true)⟩,
    ⟨some 34, .pick (.t 26) (.t 33) (.k (.bool false)), some (23, false)⟩,
    ⟨some 35, .pick (.t 23) (.k (.bool true)) (.t 34), none⟩] (some [1, 7, 35]))
  (.cond (.t 35)
   (.seq
   (.ops false [
     ⟨some 6, .nils 501 1, none⟩] (some [6]))
   .ret)
   .skip))
  (.seq
  (.ops false [
    ⟨some 36, .bslice 1 [], none⟩,
    ⟨some 37, .mov (.t 1), none⟩,
    ⟨some 38, .app 38 1 8 (.t 36) (.t 37), none⟩,
    ⟨some 39, .mov (.t 7), none⟩,
    ⟨some 40, .bslice 1 [.t 39], none⟩,
    ⟨some 41, .app 41 1 8 (.t 38) (.t 40), none⟩,
    ⟨some 42, .bslice 1 [.t 41], none⟩,
    ⟨some 6, .mov (.t 42), none⟩] (some [6]))
  .ret)))
  .skip))
 (.seq
 (.ops false [
   ⟨some 8, .nils 8 1, none⟩] (some [1, 2, 3, 8]))
 (.seq
 (.ops false [
   ⟨some 43, .load 4 true (.t 3) [], none⟩,
   ⟨some 44, .mov (.t 1), none⟩,
   ⟨some 45, .len (.t 44), none⟩,
   ⟨some 46, .mov (.t 2), none⟩,
   ⟨some 47, .call 104 [.t 43, .t 45, .t 46], none⟩,
   ⟨some 9, .mov (.t 47), none⟩] (some [1, 2, 3, 8, 9]))
 (.seq
 (.seq
 (.ops false [
   ⟨some 10, .mov (.k (.int 0)), none⟩] (some [1, 2, 3, 8, 9, 10]))
 (.block 0
  (.loop
   (.seq
   (.seq
   (.ops false [
     ⟨some 48, .mov (.t 10), none⟩,
     ⟨some 49, .mov (.t 9), none⟩,
     ⟨some 50, .len (.t 49), none⟩,
     ⟨some 51, .bin .lss (.t 48) (.t 50), none⟩] (some [1, 2, 3, 8, 9, 10, 51]))
   (.cond (.t 51)
    .skip
    (.exit 0)))
   (.seq
   (.block 1
    (.ops true [
      ⟨some 54, .mov (.t 8), none⟩,
      ⟨some 55, .load 4 true (.t 3) [], none⟩,
      ⟨some 56, .bslice 1 [], none⟩,
      ⟨some 57, .mov (.t 1), none⟩,
      ⟨some 58, .app 58 1 8 (.t 56) (.t 57), none⟩,
      ⟨some 59, .mov (.t 9), none⟩,
      ⟨some 60, .mov (.t 10), none⟩,
      ⟨some 61, .idx 1 (.t 59) (.t 60), none⟩,
      ⟨some 62, .load 1 false (.t 61) [], none⟩,
      ⟨some 63, .bslice 1 [.t 62], none⟩,
      ⟨some 64, .app 64 1 8 (.t 58) (.t 63), none⟩,
      ⟨some 65, .mov (.t 2), none⟩,
      ⟨some 66, .call 68 [.t 55, .t 64, .t 65], none⟩,
      ⟨some 67, .app 67 1 24 (.t 54) (.t 66), none⟩,
      ⟨some 8, .mov (.t 67), none⟩] (some [1, 2, 3, 8, 9, 10])))
   (.ops false [
     ⟨some 52, .mov (.t 10), none⟩,
     ⟨some 53, .bin .add (.t 52) (.k (.int 1)), none⟩,
     ⟨some 10, .mov (.t 53), none⟩] (some [1, 2, 3, 8, 9, 10])))))))
 (.seq
 (.ops false [
   ⟨some 68, .mov (.t 8), none⟩,
   ⟨some 6, .mov (.t 68), none⟩] (some [6]))
 .ret))))))

theorem m68 : fmatch Try.prog Try.f68 3 [.tmp 6] v68 = true := by kernel_rfl

/-- steening/steeningref11.TieOf -/
def v69 : VC :=
 (.seq
 (.ops false [
   ⟨some 2, .box 2 4 (.t 0), none⟩,
   ⟨some 4, .nils 4 1, none⟩] (some [1, 2]))
 (.seq
 (.ops false [
   ⟨some 7, .fld 1 (.t 2), none⟩,
   ⟨some 8, .load 1 false (.t 7) [], none⟩,
   ⟨some 9, .makes 9 1 8 false [.int 0] (.t 8), none⟩,
   ⟨some 5, .mov (.t 9), none⟩] (some [1, 2, 5]))
 (.seq
 (.seq
 (.ops false [
   ⟨some 10, .fld 1 (.t 2), none⟩,
   ⟨some 11, .load 1 false (.t 10) [], none⟩,
   ⟨some 12, .bin .sub (.t 11) (.k (.int 1)), none⟩,
   ⟨some 6, .mov (.t 12), none⟩] (some [1, 2, 5, 6]))
 (.block 0
  (.loop
   (.seq
   (.seq
   (.ops false [
     ⟨some 13, .mov (.t 6), none⟩,
     ⟨some 14, .bin .geq (.t 13) (.k (.int 0)), none⟩] (some [1, 2, 5, 6, 14]))
   (.cond (.t 14)
    .skip
    (.exit 0)))
   (.seq
   (.block 1
    (.seq
    (.ops false [
      ⟨some 17, .mov (.t 5), none⟩,
      ⟨some 18, .mov (.t 6), none⟩,
      ⟨some 19, .mov (.t 1), none⟩,
      ⟨some 20, .fld 0 (.t 2), none⟩,
      ⟨some 21, .load 1 false (.t 20) [], none⟩,
      ⟨some 22, .bin .rem (.t 19) (.t 21), none⟩,
      ⟨some 23, .idx 1 (.t 17) (.t 18), none⟩,
      ⟨none, .store 1 (.t 23) (.t 22) (some 9), none⟩] (some [1, 2, 5, 6]))
    (.ops false [
      ⟨some 24, .mov (.t 1), none⟩,
      ⟨some 25, .fld 0 (.t 2), none⟩,
      ⟨some 26, .load 1 false (.t 25) [], none⟩,
      ⟨some 27, .bin .quo (.t 24) (.t 26), none⟩,
      ⟨some 1, .mov (.t 27), none⟩] (some [1, 2, 5, 6]))))
   (.ops false [
     ⟨some 15, .mov (.t 6), none⟩,
     ⟨some 16, .bin .sub (.t 15) (.k (.int 1)), none⟩,
     ⟨some 6, .mov (.t 16), none⟩] (some [1, 2, 5, 6])))))))
 (.seq
 (.ops false [
   ⟨some 28, .mov (.t 5), none⟩,
   ⟨some 4, .mov (.t 28), none⟩] (some [4]))
 .ret))))

theorem m69 : fmatch Try.prog Try.f69 2 [.tmp 4] v69 = true := by kernel_rfl

/-- steening/steeninglaw11.sameSpans -/
def v70 : VC :=
 (.seq
 (.ops false [
   ⟨some 4, .mov (.k (.bool false)), none⟩] (some [0, 1]))
 (.seq
 (.seq
 (.ops false [
   ⟨some 6, .mov (.t 0), none⟩,
   ⟨some 7, .len (.t 6), none⟩,
   ⟨some 8, .mov (.t 1), none⟩,
   ⟨some 9, .len (.t 8), none⟩,
   ⟨some 10, .bin .neq (.t 7) (.t 9), none⟩] (some [0, 1, 10]))
 (.cond (.t 10)
  (.seq
  (.ops false [
    ⟨some 4, .mov (.k (.bool false)), none⟩] (some [4]))
  .ret)
  .skip))
 (.seq
 (.seq
 (.ops false [
   ⟨some 5, .mov (.k (.int 0)), none⟩] (some [0, 1, 5]))
 (.block 0
  (.loop
   (.seq
   (.seq
   (.ops false [
     ⟨some 11, .mov (.t 5), none⟩,
     ⟨some 12, .mov (.t 0), none⟩,
     ⟨some 13, .len (.t 12), none⟩,
     ⟨some 14, .bin .lss (.t 11) (.t 13), none⟩] (some [0, 1, 5, 14]))
   (.cond (.t 14)
    .skip
    (.exit 0)))
   (.seq
   (.block 1
    (.seq
    (.ops true [
      ⟨some 17, .mov (.t 0), none⟩,
      ⟨some 18, .mov (.t 5), none⟩,
      ⟨some 19, .idx 2 (.t 17) (.t 18), none⟩,
      ⟨some 20, .load 2 true (.t 19) [], none⟩,
      ⟨some 21, .mov (.t 1), none⟩,
      ⟨some 22, .mov (.t 5), none⟩,
      ⟨some 23, .idx 2 (.t 21) (.t 22), none⟩,
      ⟨some 24, .load 2 true (.t 23) [], none⟩,
      ⟨some 25, .bin (.sne 2) (.t 20) (.t 24), none⟩] (some [0, 1, 5, 25]))
    (.cond (.t 25)
     (.seq
     (.ops false [
       ⟨some 4, .mov (.k (.bool false)), none⟩] (some [4]))
     .ret)
     .skip)))
   (.ops false [
     ⟨some 15, .mov (.t 5), none⟩,
     ⟨some 16, .bin .add (.t 15) (.k (.int 1)), none⟩,
     ⟨some 5, .mov (.t 16), none⟩] (some [0, 1, 5])))))))
 (.seq
 (.ops false [
   ⟨some 4, .mov (.k (.bool true)), none⟩] (some [4]))
 .ret))))

theorem m70 : fmatch Try.prog Try.f70 2 [.tmp 4] v70 = true := by kernel_rfl

/-- (steening/knots.loom).solve -/
def v71 : VC :=
 (.seq
 (.ops false [
   ⟨some 1, .box 1 6 (.t 0), none⟩,
   ⟨some 2, .alloc 2 [.int 0, .int 0], none⟩] (some [1, 2]))
 (.seq
 (.ops false [
   ⟨some 13, .call 105 [.k (.int 0)], none⟩,
   ⟨some 3, .alloc 3 (zeros [.int 0, .int 0] 51), none⟩,
   ⟨none, .store 102 (.t 3) (.t 13) (some 3), none⟩] (some [1, 2, 3]))
 (.seq
 (.seq
 (.ops false [
   ⟨some 14, .fld 0 (.t 1), none⟩,
   ⟨some 15, .fld 1 (.t 14), none⟩,
   ⟨some 16, .load 1 false (.t 15) [], none⟩,
   ⟨some 17, .bin .sub (.t 16) (.k (.int 1)), none⟩,
   ⟨some 4, .mov (.t 17), none⟩] (some [1, 2, 3, 4]))
 (.block 0
  (.loop
   (.seq
   (.seq
   (.ops false [
     ⟨some 18, .mov (.t 4), none⟩,
     ⟨some 19, .bin .geq (.t 18) (.k (.int 0)), none⟩] (some [1, 2, 3, 4, 19]))
   (.cond (.t 19)
    .skip
    (.exit 0)))
   (.seq
   (.block 1
    (.seq
    (.ops false [
      ⟨some 22, .load 102 true (.t 3) [], none⟩,
      ⟨some 5, .alloc 5 (zeros [.int 0, .int 0] 51), none⟩,
      ⟨none, .store 102 (.t 5) (.t 22) (some 5), none⟩] (some [1, 2, 3, 4, 5]))
    (.seq
    (.seq
    (.ops false [
      ⟨some 23, .fld 0 (.t 1), none⟩,
      ⟨some 24, .fld 2 (.t 23), none⟩,
      ⟨some 25, .load 1 false (.t 24) [], none⟩,
      ⟨some 26, .len (.t 25), none⟩,
      ⟨some 27, .mov (.k (.int 0)), none⟩] (some [1, 2, 3, 4, 5, 26, 27]))
    (.block 2
     (.loop
      (.seq
      (.ops false [
        ⟨some 28, .bin .lss (.t 27) (.t 26), none⟩] (some [1, 2, 3, 4, 5, 26, 27, 28]))
      (.seq
      (.cond (.t 28)
       .skip
       (.exit 2))
      (.seq
      (.block 3
       (.seq
       (.ops false [
         ⟨some 29, .mov (.t 27), none⟩,
         ⟨some 6, .mov (.t 29), none⟩] (some [1, 2, 3, 4, 5, 6, 26, 27]))
       (.ops false [
         ⟨some 30, .load 6 true (.t 1) [], none⟩,
         ⟨some 31, .load 102 true (.t 5) [], none⟩,
         ⟨some 32, .mov (.t 6), none⟩,
         ⟨some 33, .mov (.t 4), none⟩,
         ⟨some 34, .call 106 [.t 30, .t 31, .t 32, .t 33], none⟩,
         ⟨none, .store 102 (.t 5) (.t 34) (some 5), none⟩] (some [1, 2, 3, 4, 5, 26, 27]))))
      (.ops false [
        ⟨some 35, .bin .add (.t 27) (.k (.int 1)), none⟩,
        ⟨some 27, .mov (.t 35), none⟩] (some [1, 2, 3, 4, 5, 26, 27]))))))))
    (.seq
    (.ops false [
      ⟨some 36, .call 105 [.k (.int 0)], none⟩,
      ⟨none, .store 102 (.t 3) (.t 36) (some 3), none⟩] (some [1, 2, 3, 4, 5]))
    (.seq
    (.ops false [
      ⟨some 37, .build [.int 0, .int 0] [(0, 1, .k (.int 1048576)), (1, 1, .k (.int 0))], none⟩,
      ⟨some 38, .idxA 51 2 (.t 3) (.k (.int 0)), none⟩,
      ⟨none, .store 2 (.t 38) (.t 37) (some 3), none⟩] (some [1, 2, 3, 4, 5]))
    (.seq
    (.ops false [
      ⟨some 39, .load 102 true (.t 5) [], none⟩,
      ⟨some 40, .mov (.k (.int 0)), none⟩] (some [1, 2, 3, 4, 39, 40]))
    (.block 4
     (.loop
      (.seq
      (.ops false [
        ⟨some 41, .bin .lss (.t 40) (.k (.int 51)), none⟩] (some [1, 2, 3, 4, 39, 40, 41]))
      (.seq
      (.cond (.t 41)
       .skip
       (.exit 4))
      (.seq
      (.block 5
       (.seq
       (.ops false [
         ⟨some 42, .mov (.t 40), none⟩,
         ⟨some 43, .indexV 51 2 true (.t 39) (.t 40), none⟩,
         ⟨some 8, .alloc 8 [.int 0, .int 0], none⟩,
         ⟨some 7, .mov (.t 42), none⟩,
         ⟨none, .store 2 (.t 8) (.t 43) (some 8), none⟩] (some [1, 2, 3, 4, 7, 8, 39, 40]))
       (.seq
       (.ops true [
         ⟨some 44, .mov (.t 7), none⟩,
         ⟨some 45, .fld 0 (.t 1), none⟩,
         ⟨some 46, .fld 0 (.t 45), none⟩,
         ⟨some 47, .load 1 false (.t 46) [], none⟩,
         ⟨some 48, .bin .rem (.t 44) (.t 47), none⟩,
         ⟨some 49, .mov (.t 7), none⟩,
         ⟨some 50, .fld 0 (.t 1), none⟩,
         ⟨some 51, .fld 0 (.t 50), none⟩,
         ⟨some 52, .load 1 false (.t 51) [], none⟩,
         ⟨some 53, .bin .quo (.t 49) (.t 52), none⟩,
         ⟨some 9, .mov (.t 48), none⟩,
         ⟨some 10, .mov (.t 53), none⟩] (some [1, 2, 3, 4, 8, 9, 10, 39, 40]))
       (.seq
       (.seq
       (.ops false [
         ⟨some 54, .fld 4 (.t 1), none⟩,
         ⟨some 55, .load 1 false (.t 54) [], none⟩,
         ⟨some 56, .fld 0 (.t 1), none⟩,
         ⟨some 57, .fld 2 (.t 56), none⟩,
         ⟨some 58, .load 1 false (.t 57) [], none⟩,
         ⟨some 59, .len (.t 58), none⟩,
         ⟨some 60, .mov (.t 4), none⟩,
         ⟨some 61, .mov (.t 9), none⟩,
         ⟨some 62, .callv (.t 55) [.t 59, .t 60, .t 61], none⟩,
         ⟨some 63, .not (.t 62), none⟩,
         ⟨some 64, .mov (.t 63), none⟩,
         ⟨some 65, .fld 5 (.t 1), some (64, false)⟩,
         ⟨some 66, .load 1 false (.t 65) [], some (64, false)⟩,
         ⟨some 67, .mov (.t 4), some (64, false)⟩,
         ⟨some 68, .mov (.t 10), some (64, false)⟩,
         ⟨some 69, .callv (.t 66) [.t 67, .t 68], some (64, false)⟩,
         ⟨some 70, .not (.t 69), some (64, false)⟩,
         ⟨some 71, .pick (.t 64) (.k (.bool true)) (.t 70), none⟩] (some [1, 2, 3, 4, 8, 9, 10, 39, 40, 71]))
       (.cond (.t 71)
        (.exit 5)
        .skip))
       (.seq
       (.ops true [
         ⟨some 72, .fld 0 (.t 1), none⟩,
         ⟨some 73, .fld 3 (.t 72), none⟩,
         ⟨some 74, .load 1 false (.t 73) [], none⟩,
         ⟨some 75, .mov (.t 4), none⟩,
         ⟨some 76, .idx 2 (.t 74) (.t 75), none⟩,
         ⟨some 77, .load 2 true (.t 76) [], none⟩,
         ⟨some 78, .mov (.t 9), none⟩,
         ⟨some 79, .call 73 [.t 77, .t 78], none⟩,
         ⟨some 80, .mov (.t 10), none⟩,
         ⟨some 81, .idxA 51 2 (.t 3) (.t 80), none⟩,
         ⟨some 11, .mov (.t 79), none⟩,
         ⟨some 12, .mov (.t 81), none⟩] (some [1, 2, 3, 4, 8, 11, 12, 39, 40]))
       (.seq
       (.ops true [
         ⟨some 82, .mov (.t 12), none⟩,
         ⟨some 83, .mov (.t 12), none⟩,
         ⟨some 84, .nilck (.t 83), none⟩,
         ⟨some 85, .fld 0 (.t 84), none⟩,
         ⟨some 86, .load 1 false (.t 85) [], none⟩,
         ⟨some 87, .fld 0 (.t 8), none⟩,
         ⟨some 88, .load 1 false (.t 87) [], none⟩,
         ⟨some 89, .mov (.t 11), none⟩,
         ⟨some 90, .bin .add (.t 88) (.t 89), none⟩,
         ⟨some 91, .min (.t 86) (.t 90), none⟩,
         ⟨some 92, .nilck (.t 82), none⟩,
         ⟨some 93, .fld 0 (.t 92), none⟩,
         ⟨none, .store 1 (.t 93) (.t 91) none, none⟩] (some [1, 2, 3, 4, 8, 11, 12, 39, 40]))
       (.seq
       (.ops false [
         ⟨some 94, .mov (.t 11), none⟩,
         ⟨some 95, .bin .eql (.t 94) (.k (.int 0)), none⟩] (some [1, 2, 3, 4, 8, 12, 39, 40, 95]))
       (.cond (.t 95)
        (.ops true [
          ⟨some 96, .mov (.t 12), none⟩,
          ⟨some 97, .nilck (.t 96), none⟩,
          ⟨some 98, .fld 1 (.t 97), none⟩,
          ⟨some 99, .load 1 false (.t 98) [], none⟩,
          ⟨some 100, .fld 1 (.t 8), none⟩,
          ⟨some 101, .load 1 false (.t 100) [], none⟩,
          ⟨some 102, .bin .add (.t 99) (.t 101), none⟩,
          ⟨some 103, .nilck (.t 96), none⟩,
          ⟨some 104, .fld 1 (.t 103), none⟩,
          ⟨none, .store 1 (.t 104) (.t 102) none, none⟩] (some [1, 2, 3, 4, 39, 40]))
        .skip))))))))
      (.ops false [
        ⟨some 105, .bin .add (.t 40) (.k (.int 1)), none⟩,
        ⟨some 40, .mov (.t 105), none⟩] (some [1, 2, 3, 4, 39, 40])))))))))))))
   (.ops false [
     ⟨some 20, .mov (.t 4), none⟩,
     ⟨some 21, .bin .sub (.t 20) (.k (.int 1)), none⟩,
     ⟨some 4, .mov (.t 21), none⟩] (some [1, 2, 3, 4])))))))
 (.seq
 (.ops false [
   ⟨some 106, .idxA 51 2 (.t 3) (.k (.int 0)), none⟩,
   ⟨some 107, .load 2 true (.t 106) [], none⟩,
   ⟨none, .store 2 (.t 2) (.t 107) (some 2), none⟩] (some [2]))
 .ret))))

theorem m71 : fmatch Try.prog Try.f71 1 [.cell 2 84] v71 = true := by kernel_rfl

/-- steening/steeningref11.reties -/
def v72 : VC :=
 (.seq
 (.ops false [
   ⟨some 1, .box 1 4 (.t 0), none⟩,
   ⟨some 2, .nils 2 1, none⟩,
   ⟨some 3, .mov (.k (.int 0)), none⟩] (some [1]))
 (.seq
 (.ops false [
   ⟨some 9, .load 4 true (.t 1) [], none⟩,
   ⟨some 10, .call 68 [.t 9, .k (.sl 1 [] .full), .k (.bool true)], none⟩,
   ⟨some 4, .mov (.t 10), none⟩] (some [1, 4]))
 (.seq
 (.ops true [
   ⟨some 11, .load 4 true (.t 1) [], none⟩,
   ⟨some 12, .mov (.t 4), none⟩,
   ⟨some 13, .idx 1 (.t 12) (.k (.int 0)), none⟩,
   ⟨some 14, .load 1 false (.t 13) [], none⟩,
   ⟨some 15, .call 107 [.t 11, .t 14], none⟩,
   ⟨some 5, .mov (.t 15), none⟩] (some [1, 4, 5]))
 (.seq
 (.seq
 (.ops false [
   ⟨some 6, .mov (.k (.int 0)), none⟩] (some [1, 4, 5, 6]))
 (.block 0
  (.loop
   (.seq
   (.seq
   (.ops false [
     ⟨some 16, .mov (.t 6), none⟩,
     ⟨some 17, .mov (.t 4), none⟩,
     ⟨some 18, .len (.t 17), none⟩,
     ⟨some 19, .bin .lss (.t 16) (.t 18), none⟩] (some [1, 4, 5, 6, 19]))
   (.cond (.t 19)
    .skip
    (.exit 0)))
   (.seq
   (.block 1
    (.ops true [
      ⟨some 22, .mov (.t 5), none⟩,
      ⟨some 23, .load 4 true (.t 1) [], none⟩,
      ⟨some 24, .mov (.t 4), none⟩,
      ⟨some 25, .mov (.t 6), none⟩,
      ⟨some 26, .idx 1 (.t 24) (.t 25), none⟩,
      ⟨some 27, .load 1 false (.t 26) [], none⟩,
      ⟨some 28, .call 107 [.t 23, .t 27], none⟩,
      ⟨some 29, .min (.t 22) (.t 28), none⟩,
      ⟨some 5, .mov (.t 29), none⟩] (some [1, 4, 5, 6])))
   (.ops false [
     ⟨some 20, .mov (.t 6), none⟩,
     ⟨some 21, .bin .add (.t 20) (.k (.int 1)), none⟩,
     ⟨some 6, .mov (.t 21), none⟩] (some [1, 4, 5, 6])))))))
 (.seq
 (.ops false [
   ⟨some 7, .nils 7 1, none⟩] (some [1, 4, 5, 7]))
 (.seq
 (.seq
 (.ops false [
   ⟨some 8, .mov (.k (.int 0)), none⟩] (some [1, 4, 5, 7, 8]))
 (.block 2
  (.loop
   (.seq
   (.seq
   (.ops false [
     ⟨some 30, .mov (.t 8), none⟩,
     ⟨some 31, .mov (.t 4), none⟩,
     ⟨some 32, .len (.t 31), none⟩,
     ⟨some 33, .bin .lss (.t 30) (.t 32), none⟩] (some [1, 4, 5, 7, 8, 33]))
   (.cond (.t 33)
    .skip
    (.exit 2)))
   (.seq
   (.block 3
    (.seq
    (.ops true [
      ⟨some 36, .load 4 true (.t 1) [], none⟩,
      ⟨some 37, .mov (.t 4), none⟩,
      ⟨some 38, .mov (.t 8), none⟩,
      ⟨some 39, .idx 1 (.t 37) (.t 38), none⟩,
      ⟨some 40, .load 1 false (.t 39) [], none⟩,
      ⟨some 41, .call 107 [.t 36, .t 40], none⟩,
      ⟨some 42, .mov (.t 5), none⟩,
      ⟨some 43, .bin .eql (.t 41) (.t 42), none⟩] (some [1, 4, 5, 7, 8, 43]))
    (.cond (.t 43)
     (.ops false [
       ⟨some 44, .mov (.t 7), none⟩,
       ⟨some 45, .mov (.t 4), none⟩,
       ⟨some 46, .mov (.t 8), none⟩,
       ⟨some 47, .idx 1 (.t 45) (.t 46), none⟩,
       ⟨some 48, .load 1 false (.t 47) [], none⟩,
       ⟨some 49, .bslice 1 [.t 48], none⟩,
       ⟨some 50, .app 50 1 24 (.t 44) (.t 49), none⟩,
       ⟨some 7, .mov (.t 50), none⟩] (some [1, 4, 5, 7, 8]))
     .skip)))
   (.ops false [
     ⟨some 34, .mov (.t 8), none⟩,
     ⟨some 35, .bin .add (.t 34) (.k (.int 1)), none⟩,
     ⟨some 8, .mov (.t 35), none⟩] (some [1, 4, 5, 7, 8])))))))
 (.seq
 (.ops false [
   ⟨some 51, .mov (.t 7), none⟩,
   ⟨some 52, .mov (.t 5), none⟩,
   ⟨some 2, .mov (.t 51), none⟩,
   ⟨some 3, .mov (.t 52), none⟩] (some [2, 3]))
 .ret)))))))

theorem m72 : fmatch Try.prog Try.f72 1 [.tmp 2, .tmp 3] v72 = true := by kernel_rfl

/-- steening/knots.tied -/
def v73 : VC :=
 (.seq
 (.ops false [
   ⟨some 2, .box 2 2 (.t 0), none⟩,
   ⟨some 4, .mov (.k (.int 0)), none⟩] (some [1, 2]))
 (.seq
 (.ops false [
   ⟨some 5, .fld 0 (.t 2), none⟩,
   ⟨some 6, .load 1 false (.t 5) [], none⟩,
   ⟨some 7, .mov (.t 1), none⟩,
   ⟨some 8, .bin .sub (.t 6) (.t 7), none⟩,
   ⟨some 9, .mov (.t 1), none⟩,
   ⟨some 10, .fld 1 (.t 2), none⟩,
   ⟨some 11, .load 1 false (.t 10) [], none⟩,
   ⟨some 12, .bin .sub (.t 9) (.t 11), none⟩,
   ⟨some 13, .max3 (.k (.int 0)) (.t 8) (.t 12), none⟩,
   ⟨some 4, .mov (.t 13), none⟩] (some [4]))
 .ret))

theorem m73 : fmatch Try.prog Try.f73 2 [.tmp 4] v73 = true := by kernel_rfl

/-- (steening/knots.loom).only -/
def v74 : VC :=
 (.seq
 (.ops false [
   ⟨some 4, .box 4 6 (.t 0), none⟩,
   ⟨some 5, .box 5 1 (.t 1), none⟩,
   ⟨some 6, .box 6 1 (.t 2), none⟩,
   ⟨some 7, .box 7 1 (.t 3), none⟩,
   ⟨some 8, .alloc 8 [.int 0, .int 0, .sl 1 [] .full, .sl 2 [] .full, .und, .und], none⟩] (some [4, 5, 6, 7, 8]))
 (.seq
 (.ops false [
   ⟨some 10, .fld 4 (.t 4), none⟩,
   ⟨some 11, .load 1 false (.t 10) [], none⟩,
   ⟨some 9, .alloc 9 [.und], none⟩,
   ⟨none, .store 1 (.t 9) (.t 11) (some 9), none⟩] (some [4, 5, 6, 7, 8, 9]))
 (.seq
 (.ops false [
   ⟨some 12, .mkf 108 [.t 9, .t 5, .t 6, .t 7], none⟩,
   ⟨some 13, .fld 4 (.t 4), none⟩,
   ⟨none, .store 1 (.t 13) (.t 12) (some 4), none⟩] (some [4, 8]))
 (.seq
 (.ops false [
   ⟨some 14, .load 6 true (.t 4) [], none⟩,
   ⟨none, .store 6 (.t 8) (.t 14) (some 8), none⟩] (some [8]))
 .ret))))

theorem m74 : fmatch Try.prog Try.f74 4 [.cell 8 74] v74 = true := by kernel_rfl

/-- steening/steeningref11.Knots -/
def v75 : VC :=
 (.seq
 (.ops false [
   ⟨some 4, .mov (.k (.int 0)), none⟩] (some [0, 1]))
 (.seq
 (.ops false [
   ⟨some 5, .mov (.k (.int 0)), none⟩] (some [0, 1, 5]))
 (.seq
 (.seq
 (.ops false [
   ⟨some 6, .mov (.k (.int 0)), none⟩] (some [0, 1, 5, 6]))
 (.block 0
  (.loop
   (.seq
   (.seq
   (.ops false [
     ⟨some 7, .mov (.t 6), none⟩,
     ⟨some 8, .mov (.t 0), none⟩,
     ⟨some 9, .len (.t 8), none⟩,
     ⟨some 10, .bin .lss (.t 7) (.t 9), none⟩] (some [0, 1, 5, 6, 10]))
   (.cond (.t 10)
    .skip
    (.exit 0)))
   (.seq
   (.block 1
    (.ops true [
      ⟨some 13, .mov (.t 5), none⟩,
      ⟨some 14, .mov (.t 0), none⟩,
      ⟨some 15, .mov (.t 6), none⟩,
      ⟨some 16, .idx 2 (.t 14) (.t 15), none⟩,
      ⟨some 17, .fld 0 (.t 16), none⟩,
      ⟨some 18, .load 1 false (.t 17) [], none⟩,
      ⟨some 19, .mov (.t 1), none⟩,
      ⟨some 20, .mov (.t 6), none⟩,
      ⟨some 21, .idx 1 (.t 19) (.t 20), none⟩,
      ⟨some 22, .load 1 false (.t 21) [], none⟩,
      ⟨some 23, .bin .sub (.t 18) (.t 22), none⟩,
      ⟨some 24, .mov (.t 1), none⟩,
      ⟨some 25, .mov (.t 6), none⟩,
      ⟨some 26, .idx 1 (.t 24) (.t 25), none⟩,
      ⟨some 27, .load 1 false (.t 26) [], none⟩,
      ⟨some 28, .mov (.t 0), none⟩,
      ⟨some 29, .mov (.t 6), none⟩,
      ⟨some 30, .idx 2 (.t 28) (.t 29), none⟩,
      ⟨some 31, .fld 1 (.t 30), none⟩,
      ⟨some 32, .load 1 false (.t 31) [], none⟩,
      ⟨some 33, .bin .sub (.t 27) (.t 32), none⟩,
      ⟨some 34, .max3 (.k (.int 0)) (.t 23) (.t 33), none⟩,
      ⟨some 35, .bin .add (.t 13) (.t 34), none⟩,
      ⟨some 5, .mov (.t 35), none⟩] (some [0, 1, 5, 6])))
   (.ops false [
     ⟨some 11, .mov (.t 6), none⟩,
     ⟨some 12, .bin .add (.t 11) (.k (.int 1)), none⟩,
     ⟨some 6, .mov (.t 12), none⟩] (some [0, 1, 5, 6])))))))
 (.seq
 (.ops false [
   ⟨some 36, .mov (.t 5), none⟩,
   ⟨some 4, .mov (.t 36), none⟩] (some [4]))
 .ret))))

theorem m75 : fmatch Try.prog Try.f75 2 [.tmp 4] v75 = true := by kernel_rfl

/-- steening/steeningref11.within -/
def v76 : VC :=
 (.seq
 (.ops false [
   ⟨some 6, .mov (.k (.bool false)), none⟩] (some [0, 1, 2]))
 (.seq
 (.ops false [
   ⟨some 7, .mov (.t 0), none⟩,
   ⟨some 8, .mov (.t 1), none⟩,
   ⟨some 9, .mov (.t 2), none⟩,
   ⟨some 10, .call 40 [.t 7, .t 8, .t 9], none⟩,
   ⟨some 6, .mov (.t 10), none⟩] (some [6]))
 .ret))

theorem m76 : fmatch Try.prog Try.f76 3 [.tmp 6] v76 = true := by kernel_rfl

/-- steening/knots.known -/
def v77 : VC :=
 (.seq
 (.ops false [
   ⟨some 2, .box 2 4 (.t 0), none⟩,
   ⟨some 4, .alloc 4 [.int 0, .int 0, .sl 1 [] .full, .sl 2 [] .full, .und, .und], none⟩,
   ⟨some 5, .mov (.k (.int 0)), none⟩] (some [1, 2, 4]))
 (.seq
 (.seq
 (.ops false [
   ⟨some 8, .load 4 true (.t 2) [], none⟩,
   ⟨some 9, .mov (.t 1), none⟩,
   ⟨some 10, .call 85 [.t 8, .t 9], none⟩,
   ⟨some 6, .mov (.t 10), none⟩] (some [2, 4, 6]))
 (.seq
 (.ops false [
   ⟨some 11, .mov (.t 6), none⟩,
   ⟨some 12, .bin .neq (.t 11) (.k (.int 0)), none⟩] (some [2, 4, 6, 12]))
 (.cond (.t 12)
  (.seq
  (.ops false [
    ⟨some 13, .build [.int 0, .int 0, .sl 1 [] .sh, .sl 2 [] .sh, .und, .und] [], none⟩,
    ⟨some 14, .mov (.t 6), none⟩,
    ⟨none, .store 6 (.t 4) (.t 13) (some 4), none⟩,
    ⟨some 5, .mov (.t 14), none⟩] (some [4, 5]))
  .ret)
  .skip)))
 (.seq
 (.ops false [
   ⟨some 15, .load 4 true (.t 2) [], none⟩,
   ⟨some 16, .call 64 [.t 15], none⟩,
   ⟨some 7, .alloc 7 [.int 0, .int 0, .sl 1 [] .full, .sl 2 [] .full, .und, .und], none⟩,
   ⟨none, .store 6 (.t 7) (.t 16) (some 7), none⟩] (some [4, 7]))
 (.seq
 (.seq
 (.ops false [
   ⟨some 17, .load 6 true (.t 7) [], none⟩,
   ⟨some 18, .call 65 [.t 17], none⟩,
   ⟨some 19, .bin .eql (.t 18) (.k (.int 0)), none⟩] (some [4, 7, 19]))
 (.cond (.t 19)
  (.seq
  (.ops false [
    ⟨some 20, .build [.int 0, .int 0, .sl 1 [] .sh, .sl 2 [] .sh, .und, .und] [], none⟩,
    ⟨none, .store 6 (.t 4) (.t 20) (some 4), none⟩,
    ⟨some 5, .mov (.k (.int 3)), none⟩] (some [4, 5]))
  .ret)
  .skip))
 (.seq
 (.ops false [
   ⟨some 21, .load 6 true (.t 7) [], none⟩,
   ⟨none, .store 6 (.t 4) (.t 21) (some 4), none⟩,
   ⟨some 5, .mov (.k (.int 0)), none⟩] (some [4, 5]))
 .ret)))))

theorem m77 : fmatch Try.prog Try.f77 2 [.cell 4 74, .tmp 5] v77 = true := by kernel_rfl

/-- steening/knots.has -/
def v78 : VC :=
 (.seq
 (.ops false [
   ⟨some 2, .box 2 4 (.t 0), none⟩,
   ⟨some 4, .mov (.k (.bool false)), none⟩] (some [1, 2]))
 (.seq
 (.ops false [
   ⟨some 5, .mov (.t 1), none⟩,
   ⟨some 6, .fld 2 (.t 2), none⟩,
   ⟨some 7, .load 1 false (.t 6) [], none⟩,
   ⟨some 8, .len (.t 7), none⟩,
   ⟨some 9, .call 86 [.t 5, .k (.int 0), .t 8], none⟩,
   ⟨some 4, .mov (.t 9), none⟩] (some [4]))
 .ret))

theorem m78 : fmatch Try.prog Try.f78 2 [.tmp 4] v78 = true := by kernel_rfl

/-- steening/knots.Sure$1 -/
def v79 : VC :=
 (.seq
 (.ops false [
   ⟨some 5, .mov (.k (.int 0)), none⟩] (some [0, 1, 2, 3]))
 (.seq
 (.ops true [
   ⟨some 10, .load 6 true (.t 1) [7], none⟩,
   ⟨some 7, .alloc 7 [.int 0, .int 0, .sl 1 [] .full, .sl 2 [] .full, .und, .und], none⟩,
   ⟨some 6, .mov (.k (.int 0)), none⟩,
   ⟨none, .store 6 (.t 7) (.t 10) (some 7), none⟩] (some [0, 2, 3, 6, 7]))
 (.seq
 (.seq
 (.ops false [
   ⟨some 11, .fld 1 (.t 2), none⟩,
   ⟨some 12, .load 1 false (.t 11) [], none⟩,
   ⟨some 13, .mov (.k (.int 0)), none⟩] (some [0, 2, 3, 6, 7, 12, 13]))
 (.block 0
  (.loop
   (.seq
   (.ops false [
     ⟨some 14, .bin .lss (.t 13) (.t 12), none⟩] (some [0, 2, 3, 6, 7, 12, 13, 14]))
   (.seq
   (.cond (.t 14)
    .skip
    (.exit 0))
   (.seq
   (.block 1
    (.seq
    (.ops false [
      ⟨some 15, .mov (.t 13), none⟩,
      ⟨some 8, .mov (.t 15), none⟩] (some [0, 2, 3, 6, 7, 8, 12, 13]))
    (.seq
    (.ops false [
      ⟨some 16, .mov (.t 0), none⟩,
      ⟨some 17, .load 6 true (.t 7) [], none⟩,
      ⟨some 18, .load 1 false (.t 3) [], none⟩,
      ⟨some 19, .mov (.t 8), none⟩,
      ⟨some 20, .call 80 [.t 17, .t 18, .t 19], none⟩,
      ⟨some 21, .callv (.t 16) [.t 20], none⟩,
      ⟨some 9, .mov (.t 21), none⟩] (some [0, 2, 3, 6, 7, 8, 9, 12, 13]))
    (.ops true [
      ⟨some 22, .fld 0 (.t 2), none⟩,
      ⟨some 23, .load 1 false (.t 22) [7], none⟩,
      ⟨some 24, .mov (.t 6), none⟩,
      ⟨some 25, .mov (.t 9), none⟩,
      ⟨some 26, .bslice 1 [.t 24, .t 25], none⟩,
      ⟨some 27, .call 81 [.t 23, .t 26], none⟩,
      ⟨some 28, .load 6 true (.t 7) [], none⟩,
      ⟨some 29, .load 1 false (.t 3) [7], none⟩,
      ⟨some 30, .mov (.t 8), none⟩,
      ⟨some 31, .mov (.t 9), none⟩,
      ⟨some 32, .call 74 [.t 28, .t 29, .t 30, .t 31], none⟩,
      ⟨some 6, .mov (.t 27), none⟩,
      ⟨none, .store 6 (.t 7) (.t 32) (some 7), none⟩] (some [0, 2, 3, 6, 7, 12, 13])))))
   (.ops false [
     ⟨some 33, .bin .add (.t 13) (.k (.int 1)), none⟩,
     ⟨some 13, .mov (.t 33), none⟩] (some [0, 2, 3, 6, 7, 12, 13]))))))))
 (.seq
 (.ops false [
   ⟨some 34, .mov (.t 6), none⟩,
   ⟨some 5, .mov (.t 34), none⟩] (some [5]))
 .ret))))

theorem m79 : fmatch Try.prog Try.f79 4 [.tmp 5] v79 = true := by kernel_rfl

/-- (steening/knots.loom).span -/
def v80 : VC :=
 (.seq
 (.ops false [
   ⟨some 3, .box 3 6 (.t 0), none⟩,
   ⟨some 6, .alloc 6 [.int 0, .int 0], none⟩] (some [1, 2, 3, 6]))
 (.seq
 (.ops false [
   ⟨some 9, .fld 0 (.t 3), none⟩,
   ⟨some 10, .fld 0 (.t 9), none⟩,
   ⟨some 11, .load 1 false (.t 10) [], none⟩,
   ⟨some 12, .build [.int 0, .int 0] [(0, 1, .t 11)], none⟩,
   ⟨some 7, .alloc 7 [.int 0, .int 0], none⟩,
   ⟨none, .store 2 (.t 7) (.t 12) (some 7), none⟩] (some [1, 2, 3, 6, 7]))
 (.seq
 (.seq
 (.ops false [
   ⟨some 13, .load 6 true (.t 3) [], none⟩,
   ⟨some 14, .mov (.t 1), none⟩,
   ⟨some 15, .mov (.t 2), none⟩,
   ⟨some 16, .call 67 [.t 13, .t 14, .t 15], none⟩] (some [6, 7, 16]))
 (.block 0
  (.range (.t 16) [17, 18]
   (.ops false [
     ⟨some 8, .mov (.t 17), none⟩] (some [7, 8]))
   (.block 1
    (.ops false [
      ⟨some 19, .fld 0 (.t 7), none⟩,
      ⟨some 20, .load 1 false (.t 19) [], none⟩,
      ⟨some 21, .mov (.t 8), none⟩,
      ⟨some 22, .min (.t 20) (.t 21), none⟩,
      ⟨some 23, .fld 1 (.t 7), none⟩,
      ⟨some 24, .load 1 false (.t 23) [], none⟩,
      ⟨some 25, .mov (.t 8), none⟩,
      ⟨some 26, .max (.t 24) (.t 25), none⟩,
      ⟨some 27, .build [.int 0, .int 0] [(0, 1, .t 22), (1, 1, .t 26)], none⟩,
      ⟨none, .store 2 (.t 7) (.t 27) (some 7), none⟩] (some []))))))
 (.seq
 (.ops false [
   ⟨some 28, .load 2 true (.t 7) [], none⟩,
   ⟨none, .store 2 (.t 6) (.t 28) (some 6), none⟩] (some [6]))
 .ret))))

theorem m80 : fmatch Try.prog Try.f80 3 [.cell 6 42] v80 = true := by kernel_rfl

/-- steening/knots.number -/
def v81 : VC :=
 (.seq
 (.ops false [
   ⟨some 4, .mov (.k (.int 0)), none⟩] (some [0, 1]))
 (.seq
 (.ops false [
   ⟨some 5, .mov (.k (.int 0)), none⟩] (some [0, 1, 5]))
 (.seq
 (.seq
 (.ops false [
   ⟨some 8, .mov (.t 1), none⟩,
   ⟨some 9, .len (.t 8), none⟩,
   ⟨some 10, .mov (.k (.int 0)), none⟩] (some [0, 5, 8, 9, 10]))
 (.block 0
  (.loop
   (.seq
   (.ops false [
     ⟨some 11, .bin .lss (.t 10) (.t 9), none⟩] (some [0, 5, 8, 9, 10, 11]))
   (.seq
   (.cond (.t 11)
    .skip
    (.exit 0))
   (.seq
   (.block 1
    (.seq
    (.ops false [
      ⟨some 12, .idx 1 (.t 8) (.t 10), none⟩,
      ⟨some 13, .load 1 false (.t 12) [], none⟩,
      ⟨some 7, .mov (.t 13), none⟩] (some [0, 5, 7, 8, 9, 10]))
    (.ops false [
      ⟨some 14, .mov (.t 5), none⟩,
      ⟨some 15, .mov (.t 0), none⟩,
      ⟨some 16, .bin .mul (.t 14) (.t 15), none⟩,
      ⟨some 17, .mov (.t 7), none⟩,
      ⟨some 18, .bin .add (.t 16) (.t 17), none⟩,
      ⟨some 5, .mov (.t 18), none⟩] (some [0, 5, 8, 9, 10]))))
   (.ops false [
     ⟨some 19, .bin .add (.t 10) (.k (.int 1)), none⟩,
     ⟨some 10, .mov (.t 19), none⟩] (some [0, 5, 8, 9, 10]))))))))
 (.seq
 (.ops false [
   ⟨some 20, .mov (.t 5), none⟩,
   ⟨some 4, .mov (.t 20), none⟩] (some [4]))
 .ret))))

theorem m81 : fmatch Try.prog Try.f81 2 [.tmp 4] v81 = true := by kernel_rfl

/-- steening/knots.Sure$2 -/
def v82 : VC :=
 (.seq
 (.ops false [
   ⟨some 1, .box 1 2 (.t 0), none⟩,
   ⟨some 2, .mov (.k (.int 0)), none⟩] (some [1]))
 (.seq
 (.ops false [
   ⟨some 3, .fld 0 (.t 1), none⟩,
   ⟨some 4, .load 1 false (.t 3) [], none⟩,
   ⟨some 2, .mov (.t 4), none⟩] (some [2]))
 .ret))

theorem m82 : fmatch Try.prog Try.f82 1 [.tmp 2] v82 = true := by kernel_rfl

/-- steening/knots.Sure$3 -/
def v83 : VC :=
 (.seq
 (.ops false [
   ⟨some 1, .box 1 2 (.t 0), none⟩,
   ⟨some 2, .mov (.k (.int 0)), none⟩] (some [1]))
 (.seq
 (.ops false [
   ⟨some 3, .fld 1 (.t 1), none⟩,
   ⟨some 4, .load 1 false (.t 3) [], none⟩,
   ⟨some 2, .mov (.t 4), none⟩] (some [2]))
 .ret))

theorem m83 : fmatch Try.prog Try.f83 1 [.tmp 2] v83 = true := by kernel_rfl

/-- steening/knots.hasPlace -/
def v84 : VC :=
 (.seq
 (.ops false [
   ⟨some 2, .box 2 4 (.t 0), none⟩,
   ⟨some 4, .mov (.k (.bool false)), none⟩] (some [1, 2]))
 (.seq
 (.ops false [
   ⟨some 5, .mov (.t 1), none⟩,
   ⟨some 6, .fld 1 (.t 2), none⟩,
   ⟨some 7, .load 1 false (.t 6) [], none⟩,
   ⟨some 8, .bin .sub (.t 7) (.k (.int 1)), none⟩,
   ⟨some 9, .call 86 [.t 5, .k (.int 0), .t 8], none⟩,
   ⟨some 4, .mov (.t 9), none⟩] (some [4]))
 .ret))

theorem m84 : fmatch Try.prog Try.f84 2 [.tmp 4] v84 = true := by kernel_rfl

/-- steening/knots.ask -/
def v85 : VC :=
 (.seq
 (.ops false [
   ⟨some 2, .box 2 4 (.t 0), none⟩,
   ⟨some 4, .mov (.k (.int 0)), none⟩] (some [1, 2]))
 (.seq
 (.seq
 (.ops false [
   ⟨some 6, .load 4 true (.t 2) [], none⟩,
   ⟨some 7, .call 49 [.t 6], none⟩,
   ⟨some 5, .mov (.t 7), none⟩] (some [1, 5]))
 (.seq
 (.ops false [
   ⟨some 8, .mov (.t 5), none⟩,
   ⟨some 9, .bin .neq (.t 8) (.k (.int 0)), none⟩] (some [1, 5, 9]))
 (.cond (.t 9)
  (.seq
  (.ops false [
    ⟨some 10, .mov (.t 5), none⟩,
    ⟨some 4, .mov (.t 10), none⟩] (some [4]))
  .ret)
  .skip)))
 (.seq
 (.seq
 (.ops false [
   ⟨some 11, .mov (.t 1), none⟩,
   ⟨some 12, .not (.t 11), none⟩] (some [12]))
 (.cond (.t 12)
  (.seq
  (.ops false [
    ⟨some 4, .mov (.k (.int 1)), none⟩] (some [4]))
  .ret)
  .skip))
 (.seq
 (.ops false [
   ⟨some 4, .mov (.k (.int 0)), none⟩] (some [4]))
 .ret))))

theorem m85 : fmatch Try.prog Try.f85 2 [.tmp 4] v85 = true := by kernel_rfl

/-- steening/knots.within -/
def v86 : VC :=
 (.seq
 (.ops false [
   ⟨some 6, .mov (.k (.bool false)), none⟩] (some [0, 1, 2]))
 (.seq
 (.ops false [
   ⟨some 7, .mov (.t 1), none⟩,
   ⟨some 8, .mov (.t 0), none⟩,
   ⟨some 9, .bin .leq (.t 7) (.t 8), none⟩,
   ⟨some 10, .mov (.t 9), none⟩,
   ⟨some 11, .mov (.t 0), some (10, true)⟩,
   ⟨some 12, .mov (.t 2), some (10, true)⟩,
   ⟨some 13, .bin .leq (.t 11) (.t 12), some (10, true)⟩,
   ⟨some 14, .pick (.t 10) (.t 13) (.k (.bool false)), none⟩,
   ⟨some 6, .mov (.t 14), none⟩] (some [6]))
 .ret))

theorem m86 : fmatch Try.prog Try.f86 3 [.tmp 6] v86 = true := by kernel_rfl

/-- slices.Backward[[]int,int] -/
def v87 : VC :=
 (.seq
 (.ops false [
   ⟨some 1, .box 3001 1 (.t 0), none⟩,
   ⟨some 2, .mov (.k .und), none⟩] (some [1]))
 (.seq
 (.ops false [
   ⟨some 3, .mkw 109 [.t 1], none⟩,
   ⟨some 2, .mov (.t 3), none⟩] (some [2]))
 .ret))

theorem m87 : fmatch Try.prog Try.f87 1 [.tmp 2] v87 = true := by kernel_rfl

/-- steening/knots.Carry$1 -/
def v89 : VC :=
 (.seq
 (.ops false [
   ⟨some 6, .mov (.k (.bool false)), none⟩] (some [0, 1, 2, 3]))
 (.seq
 (.ops false [
   ⟨some 7, .mov (.t 0), none⟩,
   ⟨some 8, .load 1 false (.t 2) [], none⟩,
   ⟨some 9, .bin .neq (.t 7) (.t 8), none⟩,
   ⟨some 10, .mov (.t 9), none⟩,
   ⟨some 11, .mov (.t 1), some (10, false)⟩,
   ⟨some 12, .load 1 false (.t 3) [], some (10, false)⟩,
   ⟨some 13, .bin .eql (.t 11) (.t 12), some (10, false)⟩,
   ⟨some 14, .pick (.t 10) (.k (.bool true)) (.t 13), none⟩,
   ⟨some 6, .mov (.t 14), none⟩] (some [6]))
 .ret))

theorem m89 : fmatch Try.prog Try.f89 4 [.tmp 6] v89 = true := by kernel_rfl

/-- steening/knots.Check$1 -/
def v90 : VC :=
 (.seq
 (.ops false [
   ⟨some 3, .mov (.k (.bool false)), none⟩] (some [0, 1]))
 (.seq
 (.ops false [
   ⟨some 4, .load 4 true (.t 1) [], none⟩,
   ⟨some 5, .mov (.t 0), none⟩,
   ⟨some 6, .call 91 [.t 4, .t 5], none⟩,
   ⟨some 7, .not (.t 6), none⟩,
   ⟨some 3, .mov (.t 7), none⟩] (some [3]))
 .ret))

theorem m90 : fmatch Try.prog Try.f90 2 [.tmp 3] v90 = true := by kernel_rfl

/-- steening/knots.isCord -/
def v91 : VC :=
 (.seq
 (.ops false [
   ⟨some 2, .box 2 4 (.t 0), none⟩,
   ⟨some 4, .mov (.k (.bool false)), none⟩] (some [1, 2]))
 (.seq
 (.ops false [
   ⟨some 6, .mkf 112 [.t 2], none⟩,
   ⟨some 5, .mov (.t 6), none⟩] (some [1, 2, 5]))
 (.seq
 (.ops false [
   ⟨some 7, .mov (.t 1), none⟩,
   ⟨some 8, .len (.t 7), none⟩,
   ⟨some 9, .fld 1 (.t 2), none⟩,
   ⟨some 10, .load 1 false (.t 9) [], none⟩,
   ⟨some 11, .bin .eql (.t 8) (.t 10), none⟩,
   ⟨some 12, .mov (.t 11), none⟩,
   ⟨some 13, .mov (.t 1), some (12, true)⟩,
   ⟨some 14, .mov (.t 5), some (12, true)⟩,
   ⟨some 15, .call 113 [.t 13, .t 14], some (12, true)⟩,
   ⟨some 16, .not (.t 15), some (12, true)⟩,
   ⟨some 17, .pick (.t 12) (.t 16) (.k (.bool false)), none⟩,
   ⟨some 4, .mov (.t 17), none⟩] (some [4]))
 .ret)))

theorem m91 : fmatch Try.prog Try.f91 2 [.tmp 4] v91 = true := by kernel_rfl

/-- slices.ContainsFunc[[][]steening/api.Span,[]steening/api.Span] -/
def v92 : VC :=
 (.seq
 (.ops false [
   ⟨some 4, .mov (.k (.bool false)), none⟩] (some [0, 1]))
 (.seq
 (.ops false [
   ⟨some 5, .mov (.t 0), none⟩,
   ⟨some 6, .mov (.t 1), none⟩,
   ⟨some 7, .call 114 [.t 5, .t 6], none⟩,
   ⟨some 8, .bin .geq (.t 7) (.k (.int 0)), none⟩,
   ⟨some 4, .mov (.t 8), none⟩] (some [4]))
 .ret))

theorem m92 : fmatch Try.prog Try.f92 2 [.tmp 4] v92 = true := by kernel_rfl

/-- steening/steeningref11.isCord -/
def v93 : VC :=
 (.seq
 (.ops false [
   ⟨some 2, .box 2 4 (.t 0), none⟩,
   ⟨some 4, .mov (.k (.bool false)), none⟩] (some [1, 2]))
 (.seq
 (.seq
 (.ops false [
   ⟨some 6, .mov (.t 1), none⟩,
   ⟨some 7, .len (.t 6), none⟩,
   ⟨some 8, .fld 1 (.t 2), none⟩,
   ⟨some 9, .load 1 false (.t 8) [], none⟩,
   ⟨some 10, .bin .neq (.t 7) (.t 9), none⟩] (some [1, 2, 10]))
 (.cond (.t 10)
  (.seq
  (.ops false [
    ⟨some 4, .mov (.k (.bool false)), none⟩] (some [4]))
  .ret)
  .skip))
 (.seq
 (.seq
 (.ops false [
   ⟨some 5, .mov (.k (.int 0)), none⟩] (some [1, 2, 5]))
 (.block 0
  (.loop
   (.seq
   (.seq
   (.ops false [
     ⟨some 11, .mov (.t 5), none⟩,
     ⟨some 12, .mov (.t 1), none⟩,
     ⟨some 13, .len (.t 12), none⟩,
     ⟨some 14, .bin .lss (.t 11) (.t 13), none⟩] (some [1, 2, 5, 14]))
   (.cond (.t 14)
    .skip
    (.exit 0)))
   (.seq
   (.block 1
    (.seq
    (.ops true [
      ⟨some 17, .mov (.t 1), none⟩,
      ⟨some 18, .mov (.t 5), none⟩,
      ⟨some 19, .idx 2 (.t 17) (.t 18), none⟩,
      ⟨some 20, .fld 1 (.t 19), none⟩,
      ⟨some 21, .load 1 false (.t 20) [], none⟩,
      ⟨some 22, .fld 0 (.t 2), none⟩,
      ⟨some 23, .load 1 false (.t 22) [], none⟩,
      ⟨some 24, .bin .sub (.t 23) (.k (.int 1)), none⟩,
      ⟨some 25, .call 76 [.t 21, .k (.int 0), .t 24], none⟩,
      ⟨some 26, .not (.t 25), none⟩,
      ⟨some 27, .mov (.t 26), none⟩,
      ⟨some 28, .mov (.t 1), some (27, false)⟩,
      ⟨some 29, .mov (.t 5), some (27, false)⟩,
      ⟨some 30, .idx 2 (.t 28) (.t 29), some (27, false)⟩,
      ⟨some 31, .fld 0 (.t 30), some (27, false)⟩,
      ⟨some 32, .load 1 false (.t 31) [], some (27, false)⟩,
      ⟨some 33, .mov (.t 1), some (27, false)⟩,
      ⟨some 34, .mov (.t 5), some (27, false)⟩,
      ⟨some 35, .idx 2 (.t 33) (.t 34), some (27, false)⟩,
      ⟨some 36, .fld 1 (.t 35), some (27, false)⟩,
      ⟨some 37, .load 1 false (.t 36) [], some (27, false)⟩,
      ⟨some 38, .call 76 [.t 32, .k (.int 0), .t 37], some (27, false)⟩,
      ⟨some 39, .not (.t 38), some (27, false)⟩,
      ⟨some 40, .pick (.t 27) (.k (.bool true)) (.t 39), none⟩] (some [1, 2, 5, 40]))
    (.cond (.t 40)
     (.seq
     (.ops false [
       ⟨some 4, .mov (.k (.bool false)), none⟩] (some [4]))
     .ret)
     .skip)))
   (.ops false [
     ⟨some 15, .mov (.t 5), none⟩,
     ⟨some 16, .bin .add (.t 15) (.k (.int 1)), none⟩,
     ⟨some 5, .mov (.t 16), none⟩] (some [1, 2, 5])))))))
 (.seq
 (.ops false [
   ⟨some 4, .mov (.k (.bool true)), none⟩] (some [4]))
 .ret))))

theorem m93 : fmatch Try.prog Try.f93 2 [.tmp 4] v93 = true := by kernel_rfl

/-- steening/steeningref11.Fits -/
def v99 : VC :=
 (.seq
 (.ops false [
   ⟨some 4, .mov (.k (.bool false)), none⟩] (some [0, 1]))
 (.seq
 (.seq
 (.ops false [
   ⟨some 5, .mov (.k (.int 0)), none⟩] (some [0, 1, 5]))
 (.block 0
  (.loop
   (.seq
   (.seq
   (.ops false [
     ⟨some 6, .mov (.t 5), none⟩,
     ⟨some 7, .mov (.t 0), none⟩,
     ⟨some 8, .len (.t 7), none⟩,
     ⟨some 9, .bin .lss (.t 6) (.t 8), none⟩] (some [0, 1, 5, 9]))
   (.cond (.t 9)
    .skip
    (.exit 0)))
   (.seq
   (.block 1
    (.seq
    (.ops true [
      ⟨some 12, .mov (.t 1), none⟩,
      ⟨some 13, .mov (.t 5), none⟩,
      ⟨some 14, .idx 1 (.t 12) (.t 13), none⟩,
      ⟨some 15, .load 1 false (.t 14) [], none⟩,
      ⟨some 16, .mov (.t 0), none⟩,
      ⟨some 17, .mov (.t 5), none⟩,
      ⟨some 18, .idx 2 (.t 16) (.t 17), none⟩,
      ⟨some 19, .fld 0 (.t 18), none⟩,
      ⟨some 20, .load 1 false (.t 19) [], none⟩,
      ⟨some 21, .mov (.t 0), none⟩,
      ⟨some 22, .mov (.t 5), none⟩,
      ⟨some 23, .idx 2 (.t 21) (.t 22), none⟩,
      ⟨some 24, .fld 1 (.t 23), none⟩,
      ⟨some 25, .load 1 false (.t 24) [], none⟩,
      ⟨some 26, .call 76 [.t 15, .t 20, .t 25], none⟩,
      ⟨some 27, .not (.t 26), none⟩] (some [0, 1, 5, 27]))
    (.cond (.t 27)
     (.seq
     (.ops false [
       ⟨some 4, .mov (.k (.bool false)), none⟩] (some [4]))
     .ret)
     .skip)))
   (.ops false [
     ⟨some 10, .mov (.t 5), none⟩,
     ⟨some 11, .bin .add (.t 10) (.k (.int 1)), none⟩,
     ⟨some 5, .mov (.t 11), none⟩] (some [0, 1, 5])))))))
 (.seq
 (.ops false [
   ⟨some 4, .mov (.k (.bool true)), none⟩] (some [4]))
 .ret)))

theorem m99 : fmatch Try.prog Try.f99 2 [.tmp 4] v99 = true := by kernel_rfl

/-- steening/knots.weave$1 -/
def v100 : VC :=
 (.seq
 (.ops false [
   ⟨some 6, .mov (.k (.bool false)), none⟩] (some []))
 (.seq
 (.ops false [
   ⟨some 6, .mov (.k (.bool true)), none⟩] (some [6]))
 .ret))

theorem m100 : fmatch Try.prog Try.f100 3 [.tmp 6] v100 = true := by kernel_rfl

/-- steening/knots.weave$2 -/
def v101 : VC :=
 (.seq
 (.ops false [
   ⟨some 4, .mov (.k (.bool false)), none⟩] (some []))
 (.seq
 (.ops false [
   ⟨some 4, .mov (.k (.bool true)), none⟩] (some [4]))
 .ret))

theorem m101 : fmatch Try.prog Try.f101 2 [.tmp 4] v101 = true := by kernel_rfl

/-- (steening/knots.loom).digits$1 -/
def v102 : VC :=
 (.seq
 (.ops false [
   ⟨some 7, .fld 0 (.t 1), none⟩,
   ⟨some 8, .fld 0 (.t 7), none⟩,
   ⟨some 9, .load 1 false (.t 8) [], none⟩,
   ⟨some 10, .mov (.k (.int 0)), none⟩] (some [0, 1, 2, 3, 9, 10]))
 (.block 0
  (.loop
   (.seq
   (.ops false [
     ⟨some 11, .bin .lss (.t 10) (.t 9), none⟩] (some [0, 1, 2, 3, 9, 10, 11]))
   (.seq
   (.cond (.t 11)
    .skip
    (.exit 0))
   (.seq
   (.block 1
    (.seq
    (.ops false [
      ⟨some 12, .mov (.t 10), none⟩,
      ⟨some 5, .mov (.t 12), none⟩] (some [0, 1, 2, 3, 5, 9, 10]))
    (.seq
    (.ops false [
      ⟨some 13, .load 6 true (.t 1) [], none⟩,
      ⟨some 14, .load 1 false (.t 2) [], none⟩,
      ⟨some 15, .load 1 false (.t 3) [], none⟩,
      ⟨some 16, .mov (.t 5), none⟩,
      ⟨some 17, .call 74 [.t 13, .t 14, .t 15, .t 16], none⟩,
      ⟨some 18, .call 65 [.t 17], none⟩,
      ⟨some 6, .mov (.t 18), none⟩] (some [0, 1, 2, 3, 5, 6, 9, 10]))
    (.seq
    (.ops false [
      ⟨some 19, .mov (.t 6), none⟩,
      ⟨some 20, .bin .gtr (.t 19) (.k (.int 0)), none⟩,
      ⟨some 21, .mov (.t 20), none⟩,
      ⟨some 22, .mov (.t 0), some (21, true)⟩,
      ⟨some 23, .mov (.t 5), some (21, true)⟩,
      ⟨some 24, .mov (.t 6), some (21, true)⟩,
      ⟨some 25, .yield (.t 22) [.t 23, .t 24], some (21, true)⟩,
      ⟨some 26, .not (.t 25), some (21, true)⟩,
      ⟨some 27, .pick (.t 21) (.t 26) (.k (.bool false)), none⟩] (some [0, 1, 2, 3, 9, 10, 27]))
    (.cond (.t 27)
     .ret
     .skip)))))
   (.ops false [
     ⟨some 28, .bin .add (.t 10) (.k (.int 1)), none⟩,
     ⟨some 10, .mov (.t 28), none⟩] (some [0, 1, 2, 3, 9, 10]))))))))

theorem m102 : fmatch Try.prog Try.f102 4 [] v102 = true := by kernel_rfl

/-- steening/steeningref11.Sum -/
def v103 : VC :=
 (.seq
 (.ops false [
   ⟨some 2, .mov (.k (.int 0)), none⟩] (some [0]))
 (.seq
 (.ops false [
   ⟨some 3, .mov (.k (.int 0)), none⟩] (some [0, 3]))
 (.seq
 (.seq
 (.ops false [
   ⟨some 4, .mov (.k (.int 0)), none⟩] (some [0, 3, 4]))
 (.block 0
  (.loop
   (.seq
   (.seq
   (.ops false [
     ⟨some 5, .mov (.t 4), none⟩,
     ⟨some 6, .mov (.t 0), none⟩,
     ⟨some 7, .len (.t 6), none⟩,
     ⟨some 8, .bin .lss (.t 5) (.t 7), none⟩] (some [0, 3, 4, 8]))
   (.cond (.t 8)
    .skip
    (.exit 0)))
   (.seq
   (.block 1
    (.ops false [
      ⟨some 11, .mov (.t 3), none⟩,
      ⟨some 12, .mov (.t 0), none⟩,
      ⟨some 13, .mov (.t 4), none⟩,
      ⟨some 14, .idx 1 (.t 12) (.t 13), none⟩,
      ⟨some 15, .load 1 false (.t 14) [], none⟩,
      ⟨some 16, .bin .add (.t 11) (.t 15), none⟩,
      ⟨some 3, .mov (.t 16), none⟩] (some [0, 3, 4])))
   (.ops false [
     ⟨some 9, .mov (.t 4), none⟩,
     ⟨some 10, .bin .add (.t 9) (.k (.int 1)), none⟩,
     ⟨some 4, .mov (.t 10), none⟩] (some [0, 3, 4])))))))
 (.seq
 (.ops false [
   ⟨some 17, .mov (.t 3), none⟩,
   ⟨some 2, .mov (.t 17), none⟩] (some [2]))
 .ret))))

theorem m103 : fmatch Try.prog Try.f103 1 [.tmp 2] v103 = true := by kernel_rfl

/-- steening/steeningref11.numbers -/
def v104 : VC :=
 (.seq
 (.ops false [
   ⟨some 3, .box 3 4 (.t 0), none⟩,
   ⟨some 6, .nils 6 1, none⟩] (some [1, 2, 3]))
 (.seq
 (.ops false [
   ⟨some 7, .nils 7 1, none⟩] (some [1, 2, 3, 7]))
 (.seq
 (.seq
 (.ops false [
   ⟨some 8, .mov (.k (.int 0)), none⟩] (some [1, 2, 3, 7, 8]))
 (.block 0
  (.loop
   (.seq
   (.seq
   (.ops false [
     ⟨some 9, .mov (.t 8), none⟩,
     ⟨some 10, .load 4 true (.t 3) [], none⟩,
     ⟨some 11, .call 41 [.t 10], none⟩,
     ⟨some 12, .bin .lss (.t 9) (.t 11), none⟩] (some [1, 2, 3, 7, 8, 12]))
   (.cond (.t 12)
    .skip
    (.exit 0)))
   (.seq
   (.block 1
    (.seq
    (.ops true [
      ⟨some 15, .mov (.t 2), none⟩,
      ⟨some 16, .mov (.t 15), none⟩,
      ⟨some 17, .load 4 true (.t 3) [], some (16, false)⟩,
      ⟨some 18, .mov (.t 1), some (16, false)⟩,
      ⟨some 19, .call 32 [.t 17, .t 18], some (16, false)⟩,
      ⟨some 20, .load 4 true (.t 3) [], some (16, false)⟩,
      ⟨some 21, .mov (.t 8), some (16, false)⟩,
      ⟨some 22, .call 69 [.t 20, .t 21], some (16, false)⟩,
      ⟨some 23, .call 99 [.t 19, .t 22], some (16, false)⟩,
      ⟨some 24, .pick (.t 16) (.k (.bool true)) (.t 23), none⟩] (some [1, 2, 3, 7, 8, 24]))
    (.cond (.t 24)
     (.ops false [
       ⟨some 25, .mov (.t 7), none⟩,
       ⟨some 26, .mov (.t 8), none⟩,
       ⟨some 27, .bslice 1 [.t 26], none⟩,
       ⟨some 28, .app 28 1 8 (.t 25) (.t 27), none⟩,
       ⟨some 7, .mov (.t 28), none⟩] (some [1, 2, 3, 7, 8]))
     .skip)))
   (.ops false [
     ⟨some 13, .mov (.t 8), none⟩,
     ⟨some 14, .bin .add (.t 13) (.k (.int 1)), none⟩,
     ⟨some 8, .mov (.t 14), none⟩] (some [1, 2, 3, 7, 8])))))))
 (.seq
 (.ops false [
   ⟨some 29, .mov (.t 7), none⟩,
   ⟨some 6, .mov (.t 29), none⟩] (some [6]))
 .ret))))

theorem m104 : fmatch Try.prog Try.f104 3 [.tmp 6] v104 = true := by kernel_rfl

/-- steening/knots.empty -/
def v105 : VC :=
 (.seq
 (.ops false [
   ⟨some 2, .alloc 2 (zeros [.int 0, .int 0] 51), none⟩] (some [0, 2]))
 (.seq
 (.seq
 (.ops false [
   ⟨some 4, .mov (.k (.int 0)), none⟩] (some [0, 2, 4]))
 (.block 0
  (.loop
   (.seq
   (.ops false [
     ⟨some 5, .bin .lss (.t 4) (.k (.int 51)), none⟩] (some [0, 2, 4, 5]))
   (.seq
   (.cond (.t 5)
    .skip
    (.exit 0))
   (.seq
   (.block 1
    (.seq
    (.ops false [
      ⟨some 6, .mov (.t 4), none⟩,
      ⟨some 3, .mov (.t 6), none⟩] (some [0, 2, 3, 4]))
    (.ops false [
      ⟨some 7, .mov (.t 3), none⟩,
      ⟨some 8, .idxA 51 2 (.t 2) (.t 7), none⟩,
      ⟨some 9, .fld 0 (.t 8), none⟩,
      ⟨none, .store 1 (.t 9) (.k (.int 1048576)) (some 2), none⟩] (some [0, 2, 4]))))
   (.ops false [
     ⟨some 10, .bin .add (.t 4) (.k (.int 1)), none⟩,
     ⟨some 4, .mov (.t 10), none⟩] (some [0, 2, 4]))))))))
 (.seq
 (.ops false [
   ⟨some 11, .mov (.t 0), none⟩,
   ⟨some 12, .build [.int 0, .int 0] [(0, 1, .k (.int 0)), (1, 1, .k (.int 1))], none⟩,
   ⟨some 13, .idxA 51 2 (.t 2) (.t 11), none⟩,
   ⟨none, .store 2 (.t 13) (.t 12) (some 2), none⟩] (some [2]))
 (.seq
 (.ops false [
   ⟨some 14, .load 102 true (.t 2) [], none⟩,
   ⟨none, .store 102 (.t 2) (.t 14) (some 2), none⟩] (some [2]))
 .ret))))

theorem m105 : fmatch Try.prog Try.f105 1 [.cell 2 111] v105 = true := by kernel_rfl

/-- (steening/knots.loom).more -/
def v106 : VC :=
 (.seq
 (.ops false [
   ⟨some 4, .box 4 6 (.t 0), none⟩,
   ⟨some 5, .box 5 102 (.t 1), none⟩,
   ⟨some 8, .alloc 8 (zeros [.int 0, .int 0] 51), none⟩] (some [2, 3, 4, 5, 8]))
 (.seq
 (.ops false [
   ⟨some 15, .call 105 [.k (.int 0)], none⟩,
   ⟨some 9, .alloc 9 (zeros [.int 0, .int 0] 51), none⟩,
   ⟨none, .store 102 (.t 9) (.t 15) (some 9), none⟩] (some [2, 3, 4, 5, 8, 9]))
 (.seq
 (.ops false [
   ⟨some 16, .build [.int 0, .int 0] [(0, 1, .k (.int 1048576)), (1, 1, .k (.int 0))], none⟩,
   ⟨some 17, .idxA 51 2 (.t 9) (.k (.int 0)), none⟩,
   ⟨none, .store 2 (.t 17) (.t 16) (some 9), none⟩] (some [2, 3, 4, 5, 8, 9]))
 (.seq
 (.seq
 (.ops false [
   ⟨some 18, .fld 0 (.t 4), none⟩,
   ⟨some 19, .fld 0 (.t 18), none⟩,
   ⟨some 20, .load 1 false (.t 19) [], none⟩,
   ⟨some 21, .mov (.k (.int 0)), none⟩] (some [2, 3, 4, 5, 8, 9, 20, 21]))
 (.block 0
  (.loop
   (.seq
   (.ops false [
     ⟨some 22, .bin .lss (.t 21) (.t 20), none⟩] (some [2, 3, 4, 5, 8, 9, 20, 21, 22]))
   (.seq
   (.cond (.t 22)
    .skip
    (.exit 0))
   (.seq
   (.block 1
    (.seq
    (.ops false [
      ⟨some 23, .mov (.t 21), none⟩,
      ⟨some 10, .mov (.t 23), none⟩] (some [2, 3, 4, 5, 8, 9, 10, 20, 21]))
    (.seq
    (.seq
    (.ops false [
      ⟨some 24, .fld 4 (.t 4), none⟩,
      ⟨some 25, .load 1 false (.t 24) [], none⟩,
      ⟨some 26, .mov (.t 2), none⟩,
      ⟨some 27, .mov (.t 3), none⟩,
      ⟨some 28, .mov (.t 10), none⟩,
      ⟨some 29, .callv (.t 25) [.t 26, .t 27, .t 28], none⟩,
      ⟨some 30, .not (.t 29), none⟩] (some [2, 3, 4, 5, 8, 9, 10, 20, 21, 30]))
    (.cond (.t 30)
     (.exit 1)
     .skip))
    (.seq
    (.ops false [
      ⟨some 31, .fld 0 (.t 4), none⟩,
      ⟨some 32, .fld 2 (.t 31), none⟩,
      ⟨some 33, .load 1 false (.t 32) [], none⟩,
      ⟨some 34, .mov (.t 2), none⟩,
      ⟨some 35, .idx 1 (.t 33) (.t 34), none⟩,
      ⟨some 36, .load 1 false (.t 35) [], none⟩,
      ⟨some 37, .mov (.t 3), none⟩,
      ⟨some 38, .idx 2 (.t 36) (.t 37), none⟩,
      ⟨some 39, .load 2 true (.t 38) [], none⟩,
      ⟨some 40, .mov (.t 10), none⟩,
      ⟨some 41, .call 73 [.t 39, .t 40], none⟩,
      ⟨some 11, .mov (.t 41), none⟩] (some [2, 3, 4, 5, 8, 9, 10, 11, 20, 21]))
    (.seq
    (.ops false [
      ⟨some 42, .mov (.t 10), none⟩,
      ⟨some 43, .bin .sub (.k (.int 51)) (.t 42), none⟩,
      ⟨some 44, .sliceA 51 2 true (.t 5) none (some (.t 43)), none⟩,
      ⟨some 45, .len (.t 44), none⟩,
      ⟨some 46, .mov (.k (.int 0)), none⟩] (some [2, 3, 4, 5, 8, 9, 10, 11, 20, 21, 44, 45, 46]))
    (.block 2
     (.loop
      (.seq
      (.ops false [
        ⟨some 47, .bin .lss (.t 46) (.t 45), none⟩] (some [2, 3, 4, 5, 8, 9, 10, 11, 20, 21, 44, 45, 46, 47]))
      (.seq
      (.cond (.t 47)
       .skip
       (.exit 2))
      (.seq
      (.block 3
       (.seq
       (.ops false [
         ⟨some 48, .mov (.t 46), none⟩,
         ⟨some 49, .idx 2 (.t 44) (.t 46), none⟩,
         ⟨some 50, .load 2 true (.t 49) [], none⟩,
         ⟨some 13, .alloc 13 [.int 0, .int 0], none⟩,
         ⟨some 12, .mov (.t 48), none⟩,
         ⟨none, .store 2 (.t 13) (.t 50) (some 13), none⟩] (some [2, 3, 4, 5, 8, 9, 10, 11, 12, 13, 20, 21, 44, 45, 46]))
       (.seq
       (.ops false [
         ⟨some 51, .mov (.t 12), none⟩,
         ⟨some 52, .mov (.t 10), none⟩,
         ⟨some 53, .bin .add (.t 51) (.t 52), none⟩,
         ⟨some 54, .idxA 51 2 (.t 9) (.t 53), none⟩,
         ⟨some 14, .mov (.t 54), none⟩] (some [2, 3, 4, 5, 8, 9, 10, 11, 13, 14, 20, 21, 44, 45, 46]))
       (.seq
       (.ops true [
         ⟨some 55, .mov (.t 14), none⟩,
         ⟨some 56, .mov (.t 14), none⟩,
         ⟨some 57, .nilck (.t 56), none⟩,
         ⟨some 58, .fld 0 (.t 57), none⟩,
         ⟨some 59, .load 1 false (.t 58) [], none⟩,
         ⟨some 60, .fld 0 (.t 13), none⟩,
         ⟨some 61, .load 1 false (.t 60) [], none⟩,
         ⟨some 62, .mov (.t 11), none⟩,
         ⟨some 63, .bin .add (.t 61) (.t 62), none⟩,
         ⟨some 64, .min (.t 59) (.t 63), none⟩,
         ⟨some 65, .nilck (.t 55), none⟩,
         ⟨some 66, .fld 0 (.t 65), none⟩,
         ⟨none, .store 1 (.t 66) (.t 64) none, none⟩] (some [2, 3, 4, 5, 8, 9, 10, 11, 13, 14, 20, 21, 44, 45, 46]))
       (.seq
       (.ops false [
         ⟨some 67, .mov (.t 11), none⟩,
         ⟨some 68, .bin .eql (.t 67) (.k (.int 0)), none⟩] (some [2, 3, 4, 5, 8, 9, 10, 11, 13, 14, 20, 21, 44, 45, 46, 68]))
       (.cond (.t 68)
        (.ops true [
          ⟨some 69, .mov (.t 14), none⟩,
          ⟨some 70, .nilck (.t 69), none⟩,
          ⟨some 71, .fld 1 (.t 70), none⟩,
          ⟨some 72, .load 1 false (.t 71) [], none⟩,
          ⟨some 73, .fld 1 (.t 13), none⟩,
          ⟨some 74, .load 1 false (.t 73) [], none⟩,
          ⟨some 75, .bin .add (.t 72) (.t 74), none⟩,
          ⟨some 76, .nilck (.t 69), none⟩,
          ⟨some 77, .fld 1 (.t 76), none⟩,
          ⟨none, .store 1 (.t 77) (.t 75) none, none⟩] (some [2, 3, 4, 5, 8, 9, 10, 11, 20, 21, 44, 45, 46]))
        .skip))))))
      (.ops false [
        ⟨some 78, .bin .add (.t 46) (.k (.int 1)), none⟩,
        ⟨some 46, .mov (.t 78), none⟩] (some [2, 3, 4, 5, 8, 9, 10, 11, 20, 21, 44, 45, 46]))))))))))))
   (.ops false [
     ⟨some 79, .bin .add (.t 21) (.k (.int 1)), none⟩,
     ⟨some 21, .mov (.t 79), none⟩] (some [2, 3, 4, 5, 8, 9, 20, 21]))))))))
 (.seq
 (.ops false [
   ⟨some 80, .load 102 true (.t 9) [], none⟩,
   ⟨none, .store 102 (.t 8) (.t 80) (some 8), none⟩] (some [8]))
 .ret)))))

theorem m106 : fmatch Try.prog Try.f106 4 [.cell 8 111] v106 = true := by kernel_rfl

/-- steening/steeningref11.cost -/
def v107 : VC :=
 (.seq
 (.ops false [
   ⟨some 2, .box 2 4 (.t 0), none⟩,
   ⟨some 4, .mov (.k (.int 0)), none⟩] (some [1, 2]))
 (.seq
 (.ops false [
   ⟨some 5, .mov (.k (.int 0)), none⟩] (some [1, 2, 5]))
 (.seq
 (.seq
 (.ops false [
   ⟨some 6, .mov (.k (.int 0)), none⟩] (some [1, 2, 5, 6]))
 (.block 0
  (.loop
   (.seq
   (.seq
   (.ops false [
     ⟨some 7, .mov (.t 6), none⟩,
     ⟨some 8, .mov (.t 1), none⟩,
     ⟨some 9, .len (.t 8), none⟩,
     ⟨some 10, .bin .lss (.t 7) (.t 9), none⟩] (some [1, 2, 5, 6, 10]))
   (.cond (.t 10)
    .skip
    (.exit 0)))
   (.seq
   (.block 1
    (.ops true [
      ⟨some 13, .mov (.t 5), none⟩,
      ⟨some 14, .load 4 true (.t 2) [], none⟩,
      ⟨some 15, .mov (.t 6), none⟩,
      ⟨some 16, .call 32 [.t 14, .t 15], none⟩,
      ⟨some 17, .load 4 true (.t 2) [], none⟩,
      ⟨some 18, .mov (.t 1), none⟩,
      ⟨some 19, .mov (.t 6), none⟩,
      ⟨some 20, .idx 1 (.t 18) (.t 19), none⟩,
      ⟨some 21, .load 1 false (.t 20) [], none⟩,
      ⟨some 22, .call 69 [.t 17, .t 21], none⟩,
      ⟨some 23, .call 75 [.t 16, .t 22], none⟩,
      ⟨some 24, .bin .add (.t 13) (.t 23), none⟩,
      ⟨some 5, .mov (.t 24), none⟩] (some [1, 2, 5, 6])))
   (.ops false [
     ⟨some 11, .mov (.t 6), none⟩,
     ⟨some 12, .bin .add (.t 11) (.k (.int 1)), none⟩,
     ⟨some 6, .mov (.t 12), none⟩] (some [1, 2, 5, 6])))))))
 (.seq
 (.ops false [
   ⟨some 25, .mov (.t 5), none⟩,
   ⟨some 4, .mov (.t 25), none⟩] (some [4]))
 .ret))))

theorem m107 : fmatch Try.prog Try.f107 2 [.tmp 4] v107 = true := by kernel_rfl

/-- (steening/knots.loom).only$1 -/
def v108 : VC :=
 (.seq
 (.ops false [
   ⟨some 10, .mov (.k (.bool false)), none⟩] (some [0, 1, 2, 3, 4, 5, 6]))
 (.seq
 (.ops false [
   ⟨some 11, .load 1 false (.t 3) [], none⟩,
   ⟨some 12, .mov (.t 0), none⟩,
   ⟨some 13, .mov (.t 1), none⟩,
   ⟨some 14, .mov (.t 2), none⟩,
   ⟨some 15, .callv (.t 11) [.t 12, .t 13, .t 14], none⟩,
   ⟨some 16, .mov (.t 15), none⟩,
   ⟨some 17, .mov (.t 0), some (16, true)⟩,
   ⟨some 18, .load 1 false (.t 4) [], some (16, true)⟩,
   ⟨some 19, .bin .neq (.t 17) (.t 18), some (16, true)⟩,
   ⟨some 20, .mov (.t 19), some (16, true)⟩,
   ⟨some 21, .mov (.t 1), some (20, false)⟩,
   ⟨some 22, .load 1 false (.t 5) [], some (20, false)⟩,
   ⟨some 23, .bin .neq (.t 21) (.t 22), some (20, false)⟩,
   ⟨some 24, .pick (.t 20) (.k (.bool true)) (.t 23), some (16, true)⟩,
   ⟨some 25, .mov (.t 24), some (16, true)⟩,
   ⟨some 26, .mov (.t 2), some (25, false)⟩,
   ⟨some 27, .load 1 false (.t 6) [], some (25, false)⟩,
   ⟨some 28, .bin .eql (.t 26) (.t 27), some (25, false)⟩,
   ⟨some 29, .pick (.t 25) (.k (.bool true)) (.t 28), some (16, true)⟩,
   ⟨some 30, .pick (.t 16) (.t 29) (.k (.bool false)), none⟩,
   ⟨some 10, .mov (.t 30), none⟩] (some [10]))
 .ret))

theorem m108 : fmatch Try.prog Try.f108 7 [.tmp 10] v108 = true := by kernel_rfl

/-- slices.Backward[[]int,int]$1 -/
def v109 : VC :=
 (.seq
 (.ops false [
   ⟨some 4, .load 1 false (.t 1) [], none⟩,
   ⟨some 5, .len (.t 4), none⟩,
   ⟨some 6, .bin .sub (.t 5) (.k (.int 1)), none⟩,
   ⟨some 3, .mov (.t 6), none⟩] (some [0, 1, 3]))
 (.block 0
  (.loop
   (.seq
   (.seq
   (.ops false [
     ⟨some 7, .mov (.t 3), none⟩,
     ⟨some 8, .bin .geq (.t 7) (.k (.int 0)), none⟩] (some [0, 1, 3, 8]))
   (.cond (.t 8)
    .skip
    (.exit 0)))
   (.seq
   (.block 1
    (.seq
    (.ops false [
      ⟨some 11, .mov (.t 0), none⟩,
      ⟨some 12, .mov (.t 3), none⟩,
      ⟨some 13, .load 1 false (.t 1) [], none⟩,
      ⟨some 14, .mov (.t 3), none⟩,
      ⟨some 15, .idx 1 (.t 13) (.t 14), none⟩,
      ⟨some 16, .load 1 false (.t 15) [], none⟩,
      ⟨some 17, .yield (.t 11) [.t 12, .t 16], none⟩,
      ⟨some 18, .not (.t 17), none⟩] (some [0, 1, 3, 18]))
    (.cond (.t 18)
     .ret
     .skip)))
   (.ops false [
     ⟨some 9, .mov (.t 3), none⟩,
     ⟨some 10, .bin .sub (.t 9) (.k (.int 1)), none⟩,
     ⟨some 3, .mov (.t 10), none⟩] (some [0, 1, 3])))))))

theorem m109 : fmatch Try.prog Try.f109 2 [] v109 = true := by kernel_rfl

/-- steening/knots.isCord$1 -/
def v112 : VC :=
 (.seq
 (.ops false [
   ⟨some 2, .box 2 2 (.t 0), none⟩,
   ⟨some 3, .mov (.k (.bool false)), none⟩] (some [1, 2]))
 (.seq
 (.ops false [
   ⟨some 4, .fld 0 (.t 2), none⟩,
   ⟨some 5, .load 1 false (.t 4) [], none⟩,
   ⟨some 6, .fld 1 (.t 2), none⟩,
   ⟨some 7, .load 1 false (.t 6) [], none⟩,
   ⟨some 8, .call 86 [.t 5, .k (.int 0), .t 7], none⟩,
   ⟨some 9, .not (.t 8), none⟩,
   ⟨some 10, .mov (.t 9), none⟩,
   ⟨some 11, .fld 1 (.t 2), some (10, false)⟩,
   ⟨some 12, .load 1 false (.t 11) [], some (10, false)⟩,
   ⟨some 13, .fld 0 (.t 1), some (10, false)⟩,
   ⟨some 14, .load 1 false (.t 13) [], some (10, false)⟩,
   ⟨some 15, .bin .geq (.t 12) (.t 14), some (10, false)⟩,
   ⟨some 16, .pick (.t 10) (.k (.bool true)) (.t 15), none⟩,
   ⟨some 3, .mov (.t 16), none⟩] (some [3]))
 .ret))

theorem m112 : fmatch Try.prog Try.f112 2 [.tmp 3] v112 = true := by kernel_rfl

/-- slices.ContainsFunc[[]steening/api.Span,steening/api.Span] -/
def v113 : VC :=
 (.seq
 (.ops false [
   ⟨some 4, .mov (.k (.bool false)), none⟩] (some [0, 1]))
 (.seq
 (.ops false [
   ⟨some 5, .mov (.t 0), none⟩,
   ⟨some 6, .mov (.t 1), none⟩,
   ⟨some 7, .call 116 [.t 5, .t 6], none⟩,
   ⟨some 8, .bin .geq (.t 7) (.k (.int 0)), none⟩,
   ⟨some 4, .mov (.t 8), none⟩] (some [4]))
 .ret))

theorem m113 : fmatch Try.prog Try.f113 2 [.tmp 4] v113 = true := by kernel_rfl

/-- slices.IndexFunc[[][]steening/api.Span,[]steening/api.Span] -/
def v114 : VC :=
 (.seq
 (.ops false [
   ⟨some 4, .mov (.k (.int 0)), none⟩] (some [0, 1]))
 (.seq
 (.seq
 (.ops false [
   ⟨some 6, .mov (.t 0), none⟩,
   ⟨some 7, .len (.t 6), none⟩,
   ⟨some 8, .mov (.k (.int 0)), none⟩] (some [0, 1, 7, 8]))
 (.block 0
  (.loop
   (.seq
   (.ops false [
     ⟨some 9, .bin .lss (.t 8) (.t 7), none⟩] (some [0, 1, 7, 8, 9]))
   (.seq
   (.cond (.t 9)
    .skip
    (.exit 0))
   (.seq
   (.block 1
    (.seq
    (.ops false [
      ⟨some 10, .mov (.t 8), none⟩,
      ⟨some 5, .mov (.t 10), none⟩] (some [0, 1, 5, 7, 8]))
    (.seq
    (.ops false [
      ⟨some 11, .mov (.t 1), none⟩,
      ⟨some 12, .mov (.t 0), none⟩,
      ⟨some 13, .mov (.t 5), none⟩,
      ⟨some 14, .idx 1 (.t 12) (.t 13), none⟩,
      ⟨some 15, .load 1 false (.t 14) [], none⟩,
      ⟨some 16, .callv (.t 11) [.t 15], none⟩] (some [0, 1, 5, 7, 8, 16]))
    (.cond (.t 16)
     (.seq
     (.ops false [
       ⟨some 17, .mov (.t 5), none⟩,
       ⟨some 4, .mov (.t 17), none⟩] (some [4]))
     .ret)
     .skip))))
   (.ops false [
     ⟨some 18, .bin .add (.t 8) (.k (.int 1)), none⟩,
     ⟨some 8, .mov (.t 18), none⟩] (some [0, 1, 7, 8]))))))))
 (.seq
 (.ops false [
   ⟨some 4, .mov (.k (.int (-1))), none⟩] (some [4]))
 .ret)))

theorem m114 : fmatch Try.prog Try.f114 2 [.tmp 4] v114 = true := by kernel_rfl

/-- slices.IndexFunc[[]steening/api.Span,steening/api.Span] -/
def v116 : VC :=
 (.seq
 (.ops false [
   ⟨some 4, .mov (.k (.int 0)), none⟩] (some [0, 1]))
 (.seq
 (.seq
 (.ops false [
   ⟨some 6, .mov (.t 0), none⟩,
   ⟨some 7, .len (.t 6), none⟩,
   ⟨some 8, .mov (.k (.int 0)), none⟩] (some [0, 1, 7, 8]))
 (.block 0
  (.loop
   (.seq
   (.ops false [
     ⟨some 9, .bin .lss (.t 8) (.t 7), none⟩] (some [0, 1, 7, 8, 9]))
   (.seq
   (.cond (.t 9)
    .skip
    (.exit 0))
   (.seq
   (.block 1
    (.seq
    (.ops false [
      ⟨some 10, .mov (.t 8), none⟩,
      ⟨some 5, .mov (.t 10), none⟩] (some [0, 1, 5, 7, 8]))
    (.seq
    (.ops false [
      ⟨some 11, .mov (.t 1), none⟩,
      ⟨some 12, .mov (.t 0), none⟩,
      ⟨some 13, .mov (.t 5), none⟩,
      ⟨some 14, .idx 2 (.t 12) (.t 13), none⟩,
      ⟨some 15, .load 2 true (.t 14) [], none⟩,
      ⟨some 16, .callv (.t 11) [.t 15], none⟩] (some [0, 1, 5, 7, 8, 16]))
    (.cond (.t 16)
     (.seq
     (.ops false [
       ⟨some 17, .mov (.t 5), none⟩,
       ⟨some 4, .mov (.t 17), none⟩] (some [4]))
     .ret)
     .skip))))
   (.ops false [
     ⟨some 18, .bin .add (.t 8) (.k (.int 1)), none⟩,
     ⟨some 8, .mov (.t 18), none⟩] (some [0, 1, 7, 8]))))))))
 (.seq
 (.ops false [
   ⟨some 4, .mov (.k (.int (-1))), none⟩] (some [4]))
 .ret)))

theorem m116 : fmatch Try.prog Try.f116 2 [.tmp 4] v116 = true := by kernel_rfl

end Go.Proofs.Ytkkiipjfbebipaa

/- Contracts of small functions. -/
set_option linter.unusedSimpArgs false
set_option linter.unusedVariables false
set_option linter.unnecessarySimpa false
namespace Go.Proofs.Ytkkiipjfbebipaa
open Go Go.V

theorem hmix : Try.prog.follows .mixedOrders = true := by kernel_rfl

abbrev IS (l : List Int) : AV := .sl 1 (l.map .int) .sh

theorem c27 (a b : List Int) (ha : a.length < 4294967296) : Ctr Try.prog 27 [IS a, IS b] (.bool (decide (a = b))) := by
  refine ctr_of_wp hmix Try.func27 m27 rfl ?_
  unfold v27 IS
  simp -failIfUnchanged (disch := first | omega | (simp <;> omega) | fail) only [go_sem, simprocAttr]
  refine wcond_dec (fun h => ?_) (fun h => ?_)
  · simp -failIfUnchanged (disch := first | omega | (simp <;> omega) | fail) only [go_sem, simprocAttr]
    have : a ≠ b := fun e => by subst e; simp at h
    simp [this]
  · simp -failIfUnchanged (disch := first | omega | (simp <;> omega) | fail) only [go_sem, simprocAttr]
    refine wp_loop' Nat (fun i => ⟨[(0, IS a), (1, IS b), (5, .int i)], [], [], none⟩) (fun i => i ≤ a.length ∧ a.take i = b.take i) (fun i => a.length - i) 0 (by simp) (by unfold IS; simp -failIfUnchanged (disch := first | omega | (simp <;> omega) | fail) only [go_sem, simprocAttr]; try rfl) ?_
    rintro i ⟨hi, hpre⟩
    unfold IS
    simp -failIfUnchanged (disch := first | omega | (simp <;> omega) | fail) only [go_sem, simprocAttr]
    have hl : a.length = b.length := by omega
    refine wcond_dec (fun h => ?_) (fun h => ?_)
    · simp -failIfUnchanged (disch := first | omega | (simp <;> omega) | fail) only [go_sem, simprocAttr]
      have e1 : a[i]? = some a[i] := List.getElem?_eq_getElem (by omega)
      have e2 : b[i]? = some b[i] := List.getElem?_eq_getElem (by omega)
      rw [e1, e2]
      simp -failIfUnchanged (disch := first | omega | (simp <;> omega) | fail) only [go_sem, simprocAttr]
      refine wcond_dec (fun h => ?_) (fun h => ?_)
      · simp -failIfUnchanged (disch := first | omega | (simp <;> omega) | fail) only [go_sem, simprocAttr]
        have : a ≠ b := fun e => by subst e; simp at h
        simp [this]
      · simp -failIfUnchanged (disch := first | omega | (simp <;> omega) | fail) only [go_sem, simprocAttr]
        refine ⟨i + 1, ⟨by omega, ?_⟩, by dsimp only; omega, ?_⟩
        · rw [List.take_add_one, List.take_add_one, hpre, e1, e2]
          simp only [Decidable.not_not] at h
          rw [h]
        · simp -failIfUnchanged (disch := first | omega | (simp <;> omega) | fail) only [go_sem, simprocAttr]
          simp
    · simp -failIfUnchanged (disch := first | omega | (simp <;> omega) | fail) only [go_sem, simprocAttr]
      have e : i = a.length := by omega
      have : a = b := by
        rw [e, List.take_length, hl, List.take_length] at hpre
        exact hpre
      simp [this]

end Go.Proofs.Ytkkiipjfbebipaa

/- Contracts of the functions without loops that ask for little. -/
set_option linter.unusedSimpArgs false
set_option linter.unusedVariables false
set_option linter.unnecessarySimpa false
namespace Go.Proofs.Ytkkiipjfbebipaa
open Go Go.V

structure Sp where
  lo : Int
  hi : Int
  deriving Inhabited, DecidableEq

structure Bk where
  base : Int
  places : Int
  cords : List (List Sp)
  top : List Sp
  deriving Inhabited, DecidableEq

abbrev SP (s : Sp) : AV := .agg [.int s.lo, .int s.hi]
abbrev SS (l : List Sp) : AV := .sl 2 (l.map SP) .sh
abbrev KB (b : Bk) : AV := .agg [.int b.base, .int b.places, .sl 1 (b.cords.map SS) .sh, SS b.top]

def within (n lo hi : Int) : Bool := decide (lo ≤ n ∧ n ≤ hi)

theorem c86 (n lo hi : Int) : Ctr Try.prog 86 [.int n, .int lo, .int hi] (.bool (within n lo hi)) := by
  refine ctr_of_wp hmix Try.func86 m86 rfl ?_
  unfold v86
  simp -failIfUnchanged (disch := first | omega | (simp <;> omega) | fail) only [go_sem, simprocAttr]
  refine WGd_bool (fun h => ?_) (fun h => ?_)
  · simp -failIfUnchanged (disch := first | omega | (simp <;> omega) | fail) only [go_sem, simprocAttr, h]
    simp only [decide_eq_true_eq] at h
    simp [within, h]
  · simp -failIfUnchanged (disch := first | omega | (simp <;> omega) | fail) only [go_sem, simprocAttr, h]
    simp only [Bool.not_true, decide_eq_false_iff_not] at h
    simp [within, h]

theorem c78 (b : Bk) (n : Int) : Ctr Try.prog 78 [KB b, .int n] (.bool (within n 0 b.cords.length)) := by
  refine ctr_of_wp hmix Try.func78 m78 rfl ?_
  unfold v78
  simp -failIfUnchanged (disch := first | omega | (simp <;> omega) | fail) only [go_sem, simprocAttr]
  refine wcall (c86 _ _ _) ?_
  simp -failIfUnchanged (disch := first | omega | (simp <;> omega) | fail) only [go_sem, simprocAttr]

theorem c84 (b : Bk) (n : Int) : Ctr Try.prog 84 [KB b, .int n] (.bool (within n 0 (w64 (b.places - 1)))) := by
  refine ctr_of_wp hmix Try.func84 m84 rfl ?_
  unfold v84
  simp -failIfUnchanged (disch := first | omega | (simp <;> omega) | fail) only [go_sem, simprocAttr]
  refine wcall (c86 _ _ _) ?_
  simp -failIfUnchanged (disch := first | omega | (simp <;> omega) | fail) only [go_sem, simprocAttr]

theorem c73 (s : Sp) (d : Int) (h1 : 0 ≤ s.lo ∧ s.lo ≤ 1000) (h2 : 0 ≤ s.hi ∧ s.hi ≤ 1000) (h3 : 0 ≤ d ∧ d ≤ 1000) : Ctr Try.prog 73 [SP s, .int d] (.int (max (max 0 (s.lo - d)) (d - s.hi))) := by
  refine ctr_of_wp hmix Try.func73 m73 rfl ?_
  unfold v73
  simp -failIfUnchanged (disch := first | omega | (simp <;> omega) | fail) only [go_sem, simprocAttr]

end Go.Proofs.Ytkkiipjfbebipaa

/- Contracts of Check and of what it calls. -/
set_option linter.unusedSimpArgs false
set_option linter.unusedVariables false
set_option linter.unnecessarySimpa false
namespace Go.Proofs.Ytkkiipjfbebipaa
open Go Go.V

/-- The first place at which p holds, or -1. -/
def idxF {α : Type} (p : α → Bool) (l : List α) : Int := if l.any p then l.findIdx p else -1

theorem idxF_hit {α : Type} [Inhabited α] {p : α → Bool} {l : List α} {i : Nat} (hi : i < l.length) (hpre : ∀ x ∈ l.take i, p x = false) (h : p (l[i]?.getD default) = true) : idxF p l = i := by
  have e : l[i]?.getD default = l[i] := by simp [hi]
  rw [e] at h
  have hany : l.any p = true := List.any_eq_true.2 ⟨l[i], List.getElem_mem hi, h⟩
  have : l.findIdx p = i := by
    rw [List.findIdx_eq hi]
    refine ⟨h, fun j hj => ?_⟩
    refine hpre _ ?_
    have hj2 : j < l.length := by omega
    have : (l.take i)[j]'(by simp; omega) = l[j] := List.getElem_take
    rw [← this]
    exact List.getElem_mem _
  simp [idxF, hany, this]

theorem idxF_miss {α : Type} {p : α → Bool} {l : List α} (hpre : ∀ x ∈ l, p x = false) : idxF p l = -1 := by
  have : l.any p = false := List.any_eq_false.2 fun x hx => by simp [hpre x hx]
  simp [idxF, this]

theorem idxF_geq {α : Type} {p : α → Bool} {l : List α} : decide ((0 : Int) ≤ idxF p l) = l.any p := by
  unfold idxF
  cases l.any p <;> simp

theorem take_succ_all {α : Type} [Inhabited α] {p : α → Bool} {l : List α} {i : Nat} (hi : i < l.length) (hpre : ∀ x ∈ l.take i, p x = false) (h : p (l[i]?.getD default) = false) : ∀ x ∈ l.take (i + 1), p x = false := by
  intro x hx
  rw [List.take_add_one] at hx
  rcases List.mem_append.1 hx with hx | hx
  · exact hpre x hx
  · have e : l[i]? = some l[i] := List.getElem?_eq_getElem hi
    rw [e] at hx h
    simp at hx h
    rw [hx]; exact h

theorem mem_getD {α : Type} [Inhabited α] {l : List α} {i : Nat} (hi : i < l.length) : l[i]?.getD default ∈ l := by
  simp [hi]

theorem c116 (l : List Sp) (g : Nat) (caps : List AV) (p : Sp → Bool) (hp : ∀ x ∈ l, Ctr Try.prog g ([SP x] ++ caps) (.bool (p x))) (hl : l.length < 4294967296) :
    Ctr Try.prog 116 [SS l, .clo g [] caps] (.int (idxF p l)) := by
  refine ctr_of_wp hmix Try.func116 m116 rfl ?_
  unfold v116
  simp -failIfUnchanged (disch := first | omega | (simp <;> omega) | fail) only [go_sem, simprocAttr]
  refine wp_loop' Nat (fun i => ⟨[(0, SS l), (1, .clo g [] caps), (7, .int l.length), (8, .int i)], [], [], none⟩) (fun i => i ≤ l.length ∧ ∀ x ∈ l.take i, p x = false) (fun i => l.length - i) 0 (by simp) (by simp -failIfUnchanged (disch := first | omega | (simp <;> omega) | fail) only [go_sem, simprocAttr]; try rfl) ?_
  rintro i ⟨hi, hpre⟩
  simp -failIfUnchanged (disch := first | omega | (simp <;> omega) | fail) only [go_sem, simprocAttr]
  refine wcond_dec (fun h => ?_) (fun h => ?_)
  · simp -failIfUnchanged (disch := first | omega | (simp <;> omega) | fail) only [go_sem, simprocAttr]
    have hlt : i < l.length := by omega
    refine wcall (hp _ (mem_getD hlt)) ?_
    simp -failIfUnchanged (disch := first | omega | (simp <;> omega) | fail) only [go_sem, simprocAttr]
    refine wcond_bool (fun hb => ?_) (fun hb => ?_)
    · simp -failIfUnchanged (disch := first | omega | (simp <;> omega) | fail) only [go_sem, simprocAttr]
      rw [idxF_hit hlt hpre hb]
    · simp -failIfUnchanged (disch := first | omega | (simp <;> omega) | fail) only [go_sem, simprocAttr]
      refine ⟨i + 1, ⟨by omega, take_succ_all hlt hpre hb⟩, by dsimp only; omega, ?_⟩
      simp -failIfUnchanged (disch := first | omega | (simp <;> omega) | fail) only [go_sem, simprocAttr]
      try simp
  · simp -failIfUnchanged (disch := first | omega | (simp <;> omega) | fail) only [go_sem, simprocAttr]
    have e : i = l.length := by omega
    rw [idxF_miss]
    rw [e, List.take_length] at hpre
    exact hpre

theorem c113 (l : List Sp) (g : Nat) (caps : List AV) (p : Sp → Bool) (hp : ∀ x ∈ l, Ctr Try.prog g ([SP x] ++ caps) (.bool (p x))) (hl : l.length < 4294967296) :
    Ctr Try.prog 113 [SS l, .clo g [] caps] (.bool (l.any p)) := by
  refine ctr_of_wp hmix Try.func113 m113 rfl ?_
  unfold v113
  simp -failIfUnchanged (disch := first | omega | (simp <;> omega) | fail) only [go_sem, simprocAttr]
  refine wcall (c116 l g caps p hp hl) ?_
  simp -failIfUnchanged (disch := first | omega | (simp <;> omega) | fail) only [go_sem, simprocAttr]
  rw [idxF_geq]

theorem c114 (l : List (List Sp)) (g : Nat) (caps : List AV) (p : List Sp → Bool) (hp : ∀ x ∈ l, Ctr Try.prog g ([SS x] ++ caps) (.bool (p x))) (hl : l.length < 4294967296) :
    Ctr Try.prog 114 [.sl 1 (l.map SS) .sh, .clo g [] caps] (.int (idxF p l)) := by
  refine ctr_of_wp hmix Try.func114 m114 rfl ?_
  unfold v114
  simp -failIfUnchanged (disch := first | omega | (simp <;> omega) | fail) only [go_sem, simprocAttr]
  refine wp_loop' Nat (fun i => ⟨[(0, .sl 1 (l.map SS) .sh), (1, .clo g [] caps), (7, .int l.length), (8, .int i)], [], [], none⟩) (fun i => i ≤ l.length ∧ ∀ x ∈ l.take i, p x = false) (fun i => l.length - i) 0 (by simp) (by simp -failIfUnchanged (disch := first | omega | (simp <;> omega) | fail) only [go_sem, simprocAttr]; try rfl) ?_
  rintro i ⟨hi, hpre⟩
  simp -failIfUnchanged (disch := first | omega | (simp <;> omega) | fail) only [go_sem, simprocAttr]
  refine wcond_dec (fun h => ?_) (fun h => ?_)
  · simp -failIfUnchanged (disch := first | omega | (simp <;> omega) | fail) only [go_sem, simprocAttr]
    have hlt : i < l.length := by omega
    refine wcall (hp _ (mem_getD hlt)) ?_
    simp -failIfUnchanged (disch := first | omega | (simp <;> omega) | fail) only [go_sem, simprocAttr]
    refine wcond_bool (fun hb => ?_) (fun hb => ?_)
    · simp -failIfUnchanged (disch := first | omega | (simp <;> omega) | fail) only [go_sem, simprocAttr]
      rw [idxF_hit hlt hpre hb]
    · simp -failIfUnchanged (disch := first | omega | (simp <;> omega) | fail) only [go_sem, simprocAttr]
      refine ⟨i + 1, ⟨by omega, take_succ_all hlt hpre hb⟩, by dsimp only; omega, ?_⟩
      simp -failIfUnchanged (disch := first | omega | (simp <;> omega) | fail) only [go_sem, simprocAttr]
      try simp
  · simp -failIfUnchanged (disch := first | omega | (simp <;> omega) | fail) only [go_sem, simprocAttr]
    have e : i = l.length := by omega
    rw [idxF_miss]
    rw [e, List.take_length] at hpre
    exact hpre

theorem c92 (l : List (List Sp)) (g : Nat) (caps : List AV) (p : List Sp → Bool) (hp : ∀ x ∈ l, Ctr Try.prog g ([SS x] ++ caps) (.bool (p x))) (hl : l.length < 4294967296) :
    Ctr Try.prog 92 [.sl 1 (l.map SS) .sh, .clo g [] caps] (.bool (l.any p)) := by
  refine ctr_of_wp hmix Try.func92 m92 rfl ?_
  unfold v92
  simp -failIfUnchanged (disch := first | omega | (simp <;> omega) | fail) only [go_sem, simprocAttr]
  refine wcall (c114 l g caps p hp hl) ?_
  simp -failIfUnchanged (disch := first | omega | (simp <;> omega) | fail) only [go_sem, simprocAttr]
  rw [idxF_geq]

def badS (b : Bk) (s : Sp) : Bool := !within s.lo 0 s.hi || decide (b.base ≤ s.hi)
def isCordB (b : Bk) (l : List Sp) : Bool := decide ((l.length : Int) = b.places) && !l.any (badS b)
def checkB (b : Bk) : Bool := within b.base 2 10 && (within b.places 1 4 && (decide ((b.cords.length : Int) ≤ 4) && (!b.cords.any (fun l => !isCordB b l) && isCordB b b.top)))

structure Small (b : Bk) : Prop where
  cords : b.cords.length < 4294967296
  top : b.top.length < 4294967296
  each : ∀ l ∈ b.cords, l.length < 4294967296

theorem c112 (b : Bk) (s : Sp) : Ctr Try.prog 112 [SP s, .ref 4 [KB b] 0 0] (.bool (badS b s)) := by
  refine ctr_of_wp hmix Try.func112 m112 rfl ?_
  unfold v112
  simp -failIfUnchanged (disch := first | omega | (simp <;> omega) | fail) only [go_sem, simprocAttr]
  refine wcall (c86 _ _ _) ?_
  simp -failIfUnchanged (disch := first | omega | (simp <;> omega) | fail) only [go_sem, simprocAttr]
  refine WGd_bool (fun h => ?_) (fun h => ?_)
  · simp -failIfUnchanged (disch := first | omega | (simp <;> omega) | fail) only [go_sem, simprocAttr, h]
    simp [badS, h]
  · simp -failIfUnchanged (disch := first | omega | (simp <;> omega) | fail) only [go_sem, simprocAttr, h]
    simp only [Bool.not_false] at h
    simp [badS, h]

theorem c91 (b : Bk) (l : List Sp) (hl : l.length < 4294967296) : Ctr Try.prog 91 [KB b, SS l] (.bool (isCordB b l)) := by
  refine ctr_of_wp hmix Try.func91 m91 rfl ?_
  unfold v91
  simp -failIfUnchanged (disch := first | omega | (simp <;> omega) | fail) only [go_sem, simprocAttr]
  refine WGd_bool (fun h => ?_) (fun h => ?_)
  · simp -failIfUnchanged (disch := first | omega | (simp <;> omega) | fail) only [go_sem, simprocAttr, h]
    refine wcall (c113 l 112 _ (badS b) (fun x _ => c112 b x) hl) ?_
    simp -failIfUnchanged (disch := first | omega | (simp <;> omega) | fail) only [go_sem, simprocAttr, h]
    simp [isCordB, h]
  · simp -failIfUnchanged (disch := first | omega | (simp <;> omega) | fail) only [go_sem, simprocAttr, h]
    simp only [Bool.not_true] at h
    simp [isCordB, h]

theorem c90 (b : Bk) (l : List Sp) (hl : l.length < 4294967296) : Ctr Try.prog 90 [SS l, .ref 4 [KB b] 0 0] (.bool (!isCordB b l)) := by
  refine ctr_of_wp hmix Try.func90 m90 rfl ?_
  unfold v90
  simp -failIfUnchanged (disch := first | omega | (simp <;> omega) | fail) only [go_sem, simprocAttr]
  refine wcall (c91 b l hl) ?_
  simp -failIfUnchanged (disch := first | omega | (simp <;> omega) | fail) only [go_sem, simprocAttr]

theorem c49 (b : Bk) (hs : Small b) : Ctr Try.prog 49 [KB b] (.int (if checkB b then 0 else 110)) := by
  refine ctr_of_wp hmix Try.func49 m49 rfl ?_
  unfold v49
  simp -failIfUnchanged (disch := first | omega | (simp <;> omega) | fail) only [go_sem, simprocAttr]
  refine wcall (c86 _ _ _) ?_
  simp -failIfUnchanged (disch := first | omega | (simp <;> omega) | fail) only [go_sem, simprocAttr]
  refine WGd_bool (fun h1 => ?_) (fun h1 => ?_)
  · simp -failIfUnchanged (disch := first | omega | (simp <;> omega) | fail) only [go_sem, simprocAttr, h1]
    refine wcall (c86 _ _ _) ?_
    simp -failIfUnchanged (disch := first | omega | (simp <;> omega) | fail) only [go_sem, simprocAttr]
    refine WGd_bool (fun h2 => ?_) (fun h2 => ?_)
    · simp -failIfUnchanged (disch := first | omega | (simp <;> omega) | fail) only [go_sem, simprocAttr, h2]
      refine WGd_bool (fun h3 => ?_) (fun h3 => ?_)
      · simp -failIfUnchanged (disch := first | omega | (simp <;> omega) | fail) only [go_sem, simprocAttr, h3]
        refine wcall (c92 b.cords 90 _ (fun l => !isCordB b l) (fun x hx => c90 b x (hs.each x hx)) hs.cords) ?_
        simp -failIfUnchanged (disch := first | omega | (simp <;> omega) | fail) only [go_sem, simprocAttr]
        refine WGd_bool (fun h4 => ?_) (fun h4 => ?_)
        · simp -failIfUnchanged (disch := first | omega | (simp <;> omega) | fail) only [go_sem, simprocAttr, h4]
          refine wcall (c90 b b.top hs.top) ?_
          simp -failIfUnchanged (disch := first | omega | (simp <;> omega) | fail) only [go_sem, simprocAttr]
          refine wcond_bool (fun h5 => ?_) (fun h5 => ?_)
          · simp -failIfUnchanged (disch := first | omega | (simp <;> omega) | fail) only [go_sem, simprocAttr]
            simp_all [checkB]
          · simp -failIfUnchanged (disch := first | omega | (simp <;> omega) | fail) only [go_sem, simprocAttr]
            simp_all [checkB]
        · simp -failIfUnchanged (disch := first | omega | (simp <;> omega) | fail) only [go_sem, simprocAttr, h4]
          simp_all [checkB]
          intro ha
          obtain ⟨x, hx, hx2⟩ := h4
          simp [ha x hx] at hx2
      · simp -failIfUnchanged (disch := first | omega | (simp <;> omega) | fail) only [go_sem, simprocAttr, h3]
        simp_all [checkB]
        intro hc
        omega
    · simp -failIfUnchanged (disch := first | omega | (simp <;> omega) | fail) only [go_sem, simprocAttr, h2]
      simp_all [checkB]
  · simp -failIfUnchanged (disch := first | omega | (simp <;> omega) | fail) only [go_sem, simprocAttr, h1]
    simp_all [checkB]

end Go.Proofs.Ytkkiipjfbebipaa

/- Sums: arrays of ways. -/
set_option linter.unusedSimpArgs false
set_option linter.unusedVariables false
set_option linter.unnecessarySimpa false
namespace Go.Proofs.Ytkkiipjfbebipaa
open Go Go.V

structure Wy where
  k : Int
  r : Int
  deriving Inhabited, DecidableEq

def wcs : List Wy → List AV
  | [] => []
  | w :: l => .int w.k :: .int w.r :: wcs l

abbrev WS (ws : List Wy) : AV := .agg (wcs ws)

theorem wcs_len (ws : List Wy) : (wcs ws).length = 2 * ws.length := by
  induction ws with
  | nil => rfl
  | cons w l ih => simp only [wcs, List.length_cons, ih]; omega

theorem zeros_wcs (n : Nat) : zeros [.int 0, .int 0] n = wcs (List.replicate n ⟨0, 0⟩) := by
  induction n with
  | zero => rfl
  | succ n ih => simp only [zeros, List.replicate_succ, wcs, ih]; rfl

theorem wcs_get0 {ws : List Wy} {i : Nat} (h : i < ws.length) : (wcs ws)[i * 2]?.getD .und = .int (ws[i]?.getD default).k := by
  induction ws generalizing i with
  | nil => simp at h
  | cons w l ih =>
    cases i with
    | zero => rfl
    | succ i =>
      rw [show (i + 1) * 2 = i * 2 + 2 by omega]
      simp only [wcs, List.getElem?_cons_succ]
      exact ih (by simpa using h)

theorem wcs_get1 {ws : List Wy} {i : Nat} (h : i < ws.length) : (wcs ws)[i * 2 + 1]?.getD .und = .int (ws[i]?.getD default).r := by
  induction ws generalizing i with
  | nil => simp at h
  | cons w l ih =>
    cases i with
    | zero => rfl
    | succ i =>
      rw [show (i + 1) * 2 + 1 = i * 2 + 1 + 2 by omega]
      simp only [wcs, List.getElem?_cons_succ]
      exact ih (by simpa using h)

theorem wcs_take2 {ws : List Wy} {i : Nat} (h : i < ws.length) : ((wcs ws).drop (i * 2)).take 2 = [.int (ws[i]?.getD default).k, .int (ws[i]?.getD default).r] := by
  induction ws generalizing i with
  | nil => simp at h
  | cons w l ih =>
    cases i with
    | zero => rfl
    | succ i =>
      rw [show (i + 1) * 2 = i * 2 + 2 by omega]
      simp only [wcs, List.drop_succ_cons, List.getElem?_cons_succ]
      exact ih (by simpa using h)

theorem wcs_take2z {ws : List Wy} (h : 0 < ws.length) : (wcs ws).take 2 = [.int (ws[0]?.getD default).k, .int (ws[0]?.getD default).r] := wcs_take2 (i := 0) h

theorem wcs_all {ws : List Wy} {n : Nat} (h : 2 * ws.length ≤ n) : (wcs ws).take n = wcs ws := List.take_of_length_le (by rw [wcs_len]; exact h)

theorem wcs_map {ws : List Wy} {hp : List (Nat × BX)} : (wcs ws).map (strip hp) = wcs ws := by
  induction ws with
  | nil => rfl
  | cons w l ih => simp only [wcs, List.map_cons, ih, strip_int]

theorem wcs_bids {ws : List Wy} : bids (wcs ws) = [] := by
  induction ws with
  | nil => rfl
  | cons w l ih => simp only [wcs, bids, AV.bid, AV.bid1, ih, List.append_nil]

theorem setAt_wcs0 {ws : List Wy} {i : Nat} {x : Int} (h : i < ws.length) : setAt (wcs ws) (i * 2) [.int x] = wcs (ws.set i ⟨x, (ws[i]?.getD default).r⟩) := by
  induction ws generalizing i with
  | nil => simp at h
  | cons w l ih =>
    cases i with
    | zero => rfl
    | succ i =>
      rw [show (i + 1) * 2 = i * 2 + 1 + 1 by omega]
      simp only [wcs, setAt, List.set_cons_succ, List.getElem?_cons_succ]
      rw [ih (by simpa using h)]

theorem setAt_wcs1 {ws : List Wy} {i : Nat} {x : Int} (h : i < ws.length) : setAt (wcs ws) (i * 2 + 1) [.int x] = wcs (ws.set i ⟨(ws[i]?.getD default).k, x⟩) := by
  induction ws generalizing i with
  | nil => simp at h
  | cons w l ih =>
    cases i with
    | zero => rfl
    | succ i =>
      rw [show (i + 1) * 2 + 1 = (i * 2 + 1) + 1 + 1 by omega]
      simp only [wcs, setAt, List.set_cons_succ, List.getElem?_cons_succ]
      rw [ih (by simpa using h)]

theorem setAt_wcs2 {ws : List Wy} {i : Nat} {x y : Int} (h : i < ws.length) : setAt (wcs ws) (i * 2) [.int x, .int y] = wcs (ws.set i ⟨x, y⟩) := by
  induction ws generalizing i with
  | nil => simp at h
  | cons w l ih =>
    cases i with
    | zero => rfl
    | succ i =>
      rw [show (i + 1) * 2 = i * 2 + 1 + 1 by omega]
      simp only [wcs, setAt, List.set_cons_succ]
      rw [ih (by simpa using h)]

theorem setAt_wcs2z {ws : List Wy} {x y : Int} (h : 0 < ws.length) : setAt (wcs ws) 0 [.int x, .int y] = wcs (ws.set 0 ⟨x, y⟩) := setAt_wcs2 (i := 0) h

theorem setAt_wcsA {ws us : List Wy} (h : ws.length ≤ us.length) : setAt (wcs ws) 0 (wcs us) = wcs us := by
  rw [setAt_0, List.drop_eq_nil_of_le (by rw [wcs_len, wcs_len]; omega), List.append_nil]

theorem ag111 : aggOf Try.prog 111 = some true := by kernel_rfl
theorem sz111 : szOf Try.prog 111 = some 102 := by kernel_rfl

theorem out1_eq {P : Program} {fr : List (Nat × AV)} {hp : List (Nat × BX)} {tk : List (Nat × Nat)} {pd : Option Ex} {t : Nat} {ty : TypeId} : out1 P ⟨fr, hp, tk, pd⟩ (.cell t ty) = (match get fr t with
    | .ptr b 0 => match getB hp b with
      | some ⟨cells, true⟩ => match aggOf P ty with
        | some true => if szOf P ty = some cells.length then .agg cells else .und
        | some false => match cells with
          | [x] => x
          | _ => .und
        | none => .und
      | _ => .und
    | _ => .und) := rfl

theorem if_len {ws : List Wy} {x y : AV} (h : ws.length = 51) : (if some 102 = some (2 * ws.length) then x else y) = x := by rw [h]; rfl

theorem scopes_wcs {τ : AS} {ws : List Wy} : scopes τ (wcs ws) = True := by
  induction ws with
  | nil => rfl
  | cons w l ih => simp only [wcs, scopes, inScope, ih, and_self]

theorem wcs_len51 {ws : List Wy} (h : ws.length = 51) : (2 * ws.length = 102) = True := by simp [h]

theorem drop_wcs {ws : List Wy} {k : Nat} (h : 2 * ws.length ≤ k) : (wcs ws).drop k = [] := List.drop_eq_nil_of_le (by rw [wcs_len]; exact h)
theorem if_len' {ws : List Wy} {x y : AV} (h : ws.length = 51) : (if 102 = 2 * ws.length then x else y) = x := by rw [h]; rfl

attribute [go_sem] wcs_take2z setAt_wcs2z drop_wcs if_len' wcs_len51 scopes_wcs wcs_len zeros_wcs wcs_get0 wcs_get1 wcs_take2 wcs_all wcs_map wcs_bids setAt_wcs0 setAt_wcs1 setAt_wcs2 setAt_wcsA ag111 sz111 out1_eq if_len List.length_replicate List.length_set
attribute [go_sem ↓] setAt_wcs0 setAt_wcs1 setAt_wcs2 setAt_wcsA

/-- Sums of which none can be, but for one. -/
def emptyL (sum : Nat) : List Wy := (List.replicate 51 ⟨1048576, 0⟩).set sum ⟨0, 1⟩

theorem c105 (n : Nat) (hn : n < 51) : Ctr Try.prog 105 [.int n] (WS (emptyL n)) := by
  refine ctr_of_wp hmix Try.func105 m105 rfl ?_
  unfold v105
  simp -failIfUnchanged (disch := first | omega | (simp [wcs_len] <;> omega) | fail) only [go_sem, simprocAttr]
  refine wp_loop' (Nat × List Wy) (fun x => ⟨[(0, .int n), (2, .ptr 2 0), (4, .int x.1)], [(2, ⟨wcs x.2, false⟩)], [], none⟩) (fun x => x.1 ≤ 51 ∧ x.2 = List.replicate x.1 ⟨1048576, 0⟩ ++ List.replicate (51 - x.1) ⟨0, 0⟩) (fun x => 51 - x.1) (0, List.replicate 51 ⟨0, 0⟩) (by simp) (by simp -failIfUnchanged (disch := first | omega | (simp [wcs_len] <;> omega) | fail) only [go_sem, simprocAttr]; try simp) ?_
  rintro ⟨i, ws⟩ ⟨hi, hws⟩
  dsimp only at hi hws ⊢
  have hlen : ws.length = 51 := by rw [hws]; simp; omega
  simp -failIfUnchanged (disch := first | omega | (simp [wcs_len] <;> omega) | fail) only [go_sem, simprocAttr]
  refine wcond_dec (fun h => ?_) (fun h => ?_)
  · simp -failIfUnchanged (disch := first | omega | (simp [wcs_len] <;> omega) | fail) only [go_sem, simprocAttr]
    refine ⟨(i + 1, ws.set i ⟨1048576, 0⟩), ⟨by omega, ?_⟩, by dsimp only; omega, ?_⟩
    · rw [hws]
      apply List.ext_getElem?
      intro j
      simp only [List.getElem?_set, List.getElem?_append, List.getElem?_replicate, List.length_replicate, List.length_append]
      repeat' split
      all_goals (first | rfl | omega)
    · have : (ws[i]?.getD default).r = 0 := by
        rw [hws, List.getElem?_append_right (by simp)]
        have h0 : 0 < 51 - i := by omega
        simp [List.getElem?_replicate, h0]
      rw [this]
      simp -failIfUnchanged (disch := first | omega | (simp [wcs_len] <;> omega) | fail) only [go_sem, simprocAttr]
      try simp
  · simp -failIfUnchanged (disch := first | omega | (simp [wcs_len] <;> omega) | fail) only [go_sem, simprocAttr]
    have hi2 : i = 51 := by omega
    subst hi2
    simp only [Nat.sub_self, List.replicate_zero, List.append_nil] at hws
    rw [hws]
    rfl

end Go.Proofs.Ytkkiipjfbebipaa

/- The digits of a cluster added to sums. -/
set_option linter.unusedSimpArgs false
set_option linter.unusedVariables false
set_option linter.unnecessarySimpa false
namespace Go.Proofs.Ytkkiipjfbebipaa
open Go Go.V

abbrev LM (b : Bk) (may carry : AV) : AV := .agg [.int b.base, .int b.places, .sl 1 (b.cords.map SS) .sh, SS b.top, may, carry]

def costL (s : Sp) (d : Int) : Int := max (max 0 (s.lo - d)) (d - s.hi)

def addN (d : Nat) (cost : Int) (s : List Wy) (out : List Wy) (n : Nat) : List Wy :=
  out.set (n + d) ⟨min (out[n + d]?.getD default).k ((s[n]?.getD default).k + cost), if cost = 0 then w64 ((out[n + d]?.getD default).r + (s[n]?.getD default).r) else (out[n + d]?.getD default).r⟩

def addD (d : Nat) (cost : Int) (s : List Wy) (out : List Wy) : List Wy := (List.range (51 - d)).foldl (addN d cost s) out

def moreL (base : Nat) (may : Nat → Bool) (cost : Nat → Int) (s : List Wy) : List Wy :=
  (List.range base).foldl (fun out d => if may d then addD d (cost d) s out else out) ((emptyL 0).set 0 ⟨1048576, 0⟩)

/-- Sums as they are at work. -/
structure Okw (s : List Wy) : Prop where
  len : s.length = 51
  k0 : ∀ i, i < 51 → 0 ≤ (s[i]?.getD default).k
  k1 : ∀ i, i < 51 → (s[i]?.getD default).k ≤ 1048576

theorem okw_empty {n : Nat} : Okw (emptyL n) := by
  have hl : (emptyL n).length = 51 := by simp [emptyL]
  refine ⟨hl, fun i hi => ?_, fun i hi => ?_⟩ <;>
  · simp only [emptyL, List.getElem?_set, List.getElem?_replicate, List.length_replicate]
    repeat' split
    all_goals (first | (simp; done) | omega)

theorem okw_set {s : List Wy} (h : Okw s) {i : Nat} {w : Wy} (h0 : 0 ≤ w.k) (h1 : w.k ≤ 1048576) : Okw (s.set i w) := by
  refine ⟨by simp [h.len], fun j hj => ?_, fun j hj => ?_⟩
  · rw [List.getElem?_set]
    have := h.k0 j hj
    repeat' split
    all_goals (first | (simpa using h0) | (simpa using this) | (have := h.len; omega))
  · rw [List.getElem?_set]
    have := h.k1 j hj
    repeat' split
    all_goals (first | (simpa using h1) | (simpa using this) | (have := h.len; omega))

theorem okw_addN {d : Nat} {cost : Int} {s out : List Wy} {n : Nat} (hs : Okw s) (ho : Okw out) (hc : 0 ≤ cost) (hn : n + d < 51) : Okw (addN d cost s out n) := by
  unfold addN
  have a := hs.k0 n (by omega)
  have b := ho.k0 (n + d) hn
  have c := ho.k1 (n + d) hn
  exact okw_set ho (by dsimp only; omega) (by dsimp only; omega)

theorem okw_addD {d : Nat} {cost : Int} {s out : List Wy} (hs : Okw s) (ho : Okw out) (hc : 0 ≤ cost) : ∀ m, m + d ≤ 51 → Okw ((List.range m).foldl (addN d cost s) out)
  | 0, _ => ho
  | m + 1, h => by
    rw [List.range_succ, List.foldl_append]
    exact okw_addN hs (okw_addD hs ho hc m (by omega)) hc (by omega)

theorem c106 (b : Bk) (g g2 : Nat) (caps caps2 : List AV) (may : Nat → Bool) (s : List Wy) (c p : Nat) (l : List Sp) (sp : Sp)
    (hb0 : 0 ≤ b.base) (hb1 : b.base ≤ 10) (hc : b.cords[c]? = some l) (hp : l[p]? = some sp) (h1 : 0 ≤ sp.lo ∧ sp.lo ≤ 1000) (h2 : 0 ≤ sp.hi ∧ sp.hi ≤ 1000)
    (hmay : ∀ d : Nat, d < b.base.toNat → Ctr Try.prog g ([.int c, .int p, .int d] ++ caps) (.bool (may d))) (hs : Okw s) :
    Ctr Try.prog 106 [LM b (.clo g [] caps) (.clo g2 [] caps2), WS s, .int c, .int p] (WS (moreL b.base.toNat may (fun d => costL sp d) s)) := by
  refine ctr_of_wp hmix Try.func106 m106 rfl ?_
  unfold v106
  have hsl := hs.len
  obtain ⟨B, hB⟩ : ∃ B : Nat, b.base = B := ⟨b.base.toNat, by omega⟩
  have hcl2 : c < b.cords.length := (List.getElem?_eq_some_iff.1 hc).1
  have hpl : p < l.length := (List.getElem?_eq_some_iff.1 hp).1
  rw [hB] at hb0 hb1 hmay ⊢
  simp only [Int.toNat_natCast] at hmay ⊢
  simp -failIfUnchanged (disch := first | omega | (simp [wcs_len] <;> omega) | fail) only [go_sem, simprocAttr]
  refine wcall (c105 0 (by omega)) ?_
  have he : (emptyL 0).length = 51 := okw_empty.len
  simp -failIfUnchanged (disch := first | omega | (simp [wcs_len] <;> omega) | fail) only [go_sem, simprocAttr]
  have hz : Okw ((emptyL 0).set 0 ⟨1048576, 0⟩) := okw_set okw_empty (by simp) (by simp)
  refine wp_loop' (Nat × List Wy) (fun x => ⟨[(2, .int c), (3, .int p), (4, .ptr 4 0), (5, .ptr 5 0), (8, .ptr 8 0), (9, .ptr 9 0), (20, .int B), (21, .int x.1)],
    [(9, ⟨wcs x.2, false⟩), (8, ⟨wcs (List.replicate 51 ⟨0, 0⟩), false⟩), (5, ⟨wcs s, false⟩), (4, ⟨[.int B, .int b.places, .sl 1 (b.cords.map SS) .sh, SS b.top, .clo g [] caps, .clo g2 [] caps2], false⟩)], [], none⟩)
    (fun x => x.1 ≤ B ∧ x.2 = (List.range x.1).foldl (fun out d => if may d then addD d (costL sp d) s out else out) ((emptyL 0).set 0 ⟨1048576, 0⟩) ∧ Okw x.2) (fun x => B - x.1) (0, (emptyL 0).set 0 ⟨1048576, 0⟩) ⟨by simp, rfl, hz⟩ ?_ ?_
  · simp -failIfUnchanged (disch := first | omega | (simp [wcs_len] <;> omega) | fail) only [go_sem, simprocAttr]
    first | exact ⟨⟨hB, rfl⟩, by rw [hB]⟩ | exact hB | simp [hB]
  · rintro ⟨d, out⟩ ⟨hd, hout, hok⟩
    dsimp only at hd hout hok ⊢
    have hol := hok.len
    simp -failIfUnchanged (disch := first | omega | (simp [wcs_len] <;> omega) | fail) only [go_sem, simprocAttr]
    refine wcond_dec (fun h => ?_) (fun h => ?_)
    · simp -failIfUnchanged (disch := first | omega | (simp [wcs_len] <;> omega) | fail) only [go_sem, simprocAttr]
      refine wcall (hmay d (by omega)) ?_
      simp -failIfUnchanged (disch := first | omega | (simp [wcs_len] <;> omega) | fail) only [go_sem, simprocAttr]
      refine wcond_bool (fun hm => ?_) (fun hm => ?_)
      · simp -failIfUnchanged (disch := first | omega | (simp [wcs_len] <;> omega) | fail) only [go_sem, simprocAttr]
        refine ⟨(d + 1, out), ⟨by omega, ?_, hok⟩, by dsimp only; omega, ?_⟩
        · have hm2 : may d = false := by simpa using hm
          dsimp only
          rw [List.range_succ, List.foldl_append, hout]
          simp [hm2]
        · simp -failIfUnchanged (disch := first | omega | (simp [wcs_len] <;> omega) | fail) only [go_sem, simprocAttr]
          simp
      · have hm2 : may d = true := by simpa using hm
        have e1 : (b.cords[c]?.getD default) = l := by rw [hc]; rfl
        have e2 : (l[p]?.getD default) = sp := by rw [hp]; rfl
        simp -failIfUnchanged (disch := first | omega | (simp [wcs_len] <;> omega) | fail) only [go_sem, simprocAttr, e1, e2]
        refine wcall (c73 sp d h1 h2 (by omega)) ?_
        simp -failIfUnchanged (disch := first | omega | (simp [wcs_len] <;> omega) | fail) only [go_sem, simprocAttr]
        have hcost : 0 ≤ costL sp d := by unfold costL; omega
        have hcost2 : costL sp d ≤ 2000 := by unfold costL; omega
        rw [show max (max 0 (sp.lo - (d : Int))) ((d : Int) - sp.hi) = costL sp d from rfl]
        generalize hcd : costL sp d = co at hcost hcost2
        refine wp_loop' (Nat × List Wy) (fun x => ⟨[(2, .int c), (3, .int p), (4, .ptr 4 0), (5, .ptr 5 0), (8, .ptr 8 0), (9, .ptr 9 0), (10, .int d), (11, .int co), (20, .int B), (21, .int d), (44, .bsl 5 0 2 (51 - (d : Int)).toNat true), (45, .int ((51 - (d : Int)).toNat : Nat)), (46, .int x.1)],
          [(9, ⟨wcs x.2, false⟩), (8, ⟨wcs (List.replicate 51 ⟨0, 0⟩), false⟩), (5, ⟨wcs s, false⟩), (4, ⟨[.int B, .int b.places, .sl 1 (b.cords.map SS) .sh, SS b.top, .clo g [] caps, .clo g2 [] caps2], false⟩)], [], none⟩)
          (fun x => x.1 ≤ 51 - d ∧ x.2 = (List.range x.1).foldl (addN d co s) out ∧ Okw x.2) (fun x => 51 - x.1) (0, out) ⟨by simp, rfl, hok⟩ (by simp -failIfUnchanged (disch := first | omega | (simp [wcs_len] <;> omega) | fail) only [go_sem, simprocAttr]; try simp) ?_
        rintro ⟨n, u⟩ ⟨hn, hu, huk⟩
        dsimp only at hn hu huk ⊢
        have hul := huk.len
        simp -failIfUnchanged (disch := first | omega | (simp [wcs_len] <;> omega) | fail) only [go_sem, simprocAttr]
        refine wcond_dec (fun hl => ?_) (fun hl => ?_)
        · have hnd : n + d < 51 := by omega
          simp -failIfUnchanged (disch := first | omega | (simp [wcs_len] <;> omega) | fail) only [go_sem, simprocAttr]
          have ku0 := huk.k0 (n + d) hnd
          have ku1 := huk.k1 (n + d) hnd
          have ks0 := hs.k0 n (by omega)
          have ks1 := hs.k1 n (by omega)
          refine wcond_dec (fun hco => ?_) (fun hco => ?_)
          · simp -failIfUnchanged (disch := first | omega | (simp [wcs_len] <;> omega) | fail) only [go_sem, simprocAttr]
            refine ⟨(n + 1, addN d co s u n), ⟨by omega, by rw [List.range_succ, List.foldl_append, ← hu]; rfl, okw_addN hs huk hcost hnd⟩, by dsimp only; omega, ?_⟩
            simp -failIfUnchanged (disch := first | omega | (simp [wcs_len] <;> omega) | fail) only [go_sem, simprocAttr]
            have eg : ∀ x : Wy, (u.set (n + d) x)[n + d]?.getD default = x := fun x => by simp [hul, hnd]
            simp only [addN, hco, if_true, eg, List.set_set]
            simp
          · simp -failIfUnchanged (disch := first | omega | (simp [wcs_len] <;> omega) | fail) only [go_sem, simprocAttr]
            refine ⟨(n + 1, addN d co s u n), ⟨by omega, by rw [List.range_succ, List.foldl_append, ← hu]; rfl, okw_addN hs huk hcost hnd⟩, by dsimp only; omega, ?_⟩
            simp -failIfUnchanged (disch := first | omega | (simp [wcs_len] <;> omega) | fail) only [go_sem, simprocAttr]
            simp [addN, hco]
        · simp -failIfUnchanged (disch := first | omega | (simp [wcs_len] <;> omega) | fail) only [go_sem, simprocAttr]
          have en : n = 51 - d := by omega
          refine ⟨(d + 1, u), ⟨by omega, ?_, huk⟩, by dsimp only; omega, ?_⟩
          · dsimp only
            rw [List.range_succ, List.foldl_append, ← hout, hu, en]
            simp only [List.foldl_cons, List.foldl_nil, hm2, if_true, hcd]
            rfl
          · simp -failIfUnchanged (disch := first | omega | (simp [wcs_len] <;> omega) | fail) only [go_sem, simprocAttr]
            simp
    · simp -failIfUnchanged (disch := first | omega | (simp [wcs_len] <;> omega) | fail) only [go_sem, simprocAttr]
      have ed : d = B := by omega
      rw [hout, ed]
      rfl

end Go.Proofs.Ytkkiipjfbebipaa

/- The way of a whole book. -/
set_option linter.unusedSimpArgs false
set_option linter.unusedVariables false
set_option linter.unnecessarySimpa false
namespace Go.Proofs.Ytkkiipjfbebipaa
open Go Go.V

/-- What is right of a valid book. -/
structure Val (b : Bk) : Prop where
  hb : 2 ≤ b.base ∧ b.base ≤ 10
  hp : 1 ≤ b.places ∧ b.places ≤ 4
  hc : b.cords.length ≤ 4
  cord : ∀ l ∈ b.cords, (l.length : Int) = b.places ∧ ∀ s ∈ l, 0 ≤ s.lo ∧ s.lo ≤ s.hi ∧ s.hi < b.base
  top : (b.top.length : Int) = b.places ∧ ∀ s ∈ b.top, 0 ≤ s.lo ∧ s.lo ≤ s.hi ∧ s.hi < b.base

def spAt (b : Bk) (c p : Nat) : Sp := (b.cords[c]?.getD default)[p]?.getD default
def topAt (b : Bk) (p : Nat) : Sp := b.top[p]?.getD default

def colL (b : Bk) (may : Nat → Nat → Nat → Bool) (p : Nat) (s : List Wy) (m : Nat) : List Wy :=
  (List.range m).foldl (fun s c => moreL b.base.toNat (may c p) (fun d => costL (spAt b c p) d) s) s

def topN (b : Bk) (may : Nat → Nat → Nat → Bool) (carry : Nat → Nat → Bool) (p : Nat) (s : List Wy) (now : List Wy) (n : Nat) : List Wy :=
  if may b.cords.length p (n % b.base.toNat) && carry p (n / b.base.toNat) then
    now.set (n / b.base.toNat) ⟨min (now[n / b.base.toNat]?.getD default).k ((s[n]?.getD default).k + costL (topAt b p) ((n % b.base.toNat : Nat) : Int)),
      if costL (topAt b p) ((n % b.base.toNat : Nat) : Int) = 0 then w64 ((now[n / b.base.toNat]?.getD default).r + (s[n]?.getD default).r) else (now[n / b.base.toNat]?.getD default).r⟩
  else now

def stepL (b : Bk) (may : Nat → Nat → Nat → Bool) (carry : Nat → Nat → Bool) (p : Nat) (now : List Wy) : List Wy :=
  (List.range 51).foldl (topN b may carry p (colL b may p now b.cords.length)) ((emptyL 0).set 0 ⟨1048576, 0⟩)

def solveF (b : Bk) (may : Nat → Nat → Nat → Bool) (carry : Nat → Nat → Bool) : Nat → List Wy → List Wy
  | 0, now => now
  | q + 1, now => solveF b may carry q (stepL b may carry q now)

def solveL (b : Bk) (may : Nat → Nat → Nat → Bool) (carry : Nat → Nat → Bool) : Wy := (solveF b may carry b.places.toNat (emptyL 0))[0]?.getD default

theorem okw_moreL {base : Nat} {may : Nat → Bool} {cost : Nat → Int} {s : List Wy} (hs : Okw s) (hb : base ≤ 10) (hc : ∀ d, 0 ≤ cost d) : Okw (moreL base may cost s) := by
  have : ∀ m, m ≤ base → Okw ((List.range m).foldl (fun out d => if may d then addD d (cost d) s out else out) ((emptyL 0).set 0 ⟨1048576, 0⟩)) := by
    intro m
    induction m with
    | zero => intro _; exact okw_set okw_empty (by simp) (by simp)
    | succ m ih =>
      intro hm
      rw [List.range_succ, List.foldl_append]
      simp only [List.foldl_cons, List.foldl_nil]
      split
      · exact okw_addD hs (ih (by omega)) (hc m) (51 - m) (by omega)
      · exact ih (by omega)
  exact this base (Nat.le_refl _)

theorem costL_nonneg (s : Sp) (d : Int) : 0 ≤ costL s d := by unfold costL; omega

theorem okw_colL {b : Bk} {may : Nat → Nat → Nat → Bool} {p : Nat} {s : List Wy} (hs : Okw s) (hb : b.base.toNat ≤ 10) : ∀ m, Okw (colL b may p s m)
  | 0 => hs
  | m + 1 => by
    unfold colL
    rw [List.range_succ, List.foldl_append]
    exact okw_moreL (okw_colL hs hb m) hb (fun d => costL_nonneg _ _)

theorem okw_topN {b : Bk} {may : Nat → Nat → Nat → Bool} {carry : Nat → Nat → Bool} {p : Nat} {s now : List Wy} {n : Nat} (hs : Okw s) (ho : Okw now) (hn : n < 51) : Okw (topN b may carry p s now n) := by
  unfold topN
  split
  · have hq : n / b.base.toNat ≤ n := Nat.div_le_self _ _
    have a := hs.k0 n hn
    have h0 := ho.k0 (n / b.base.toNat) (by omega)
    have h1 := ho.k1 (n / b.base.toNat) (by omega)
    have hc := costL_nonneg (topAt b p) ((n % b.base.toNat : Nat) : Int)
    exact okw_set ho (by dsimp only; omega) (by dsimp only; omega)
  · exact ho

theorem okw_stepL {b : Bk} {may : Nat → Nat → Nat → Bool} {carry : Nat → Nat → Bool} {p : Nat} {now : List Wy} (hs : Okw now) (hb : b.base.toNat ≤ 10) : ∀ m, m ≤ 51 → Okw ((List.range m).foldl (topN b may carry p (colL b may p now b.cords.length)) ((emptyL 0).set 0 ⟨1048576, 0⟩))
  | 0, _ => okw_set okw_empty (by simp) (by simp)
  | m + 1, h => by
    rw [List.range_succ, List.foldl_append]
    exact okw_topN (okw_colL hs hb _) (okw_stepL hs hb m (by omega)) (by omega)

theorem ag84 : aggOf Try.prog 84 = some true := by kernel_rfl
theorem sz84 : szOf Try.prog 84 = some 2 := by kernel_rfl

attribute [go_sem] ag84 sz84

theorem c71 (b : Bk) (hv : Val b) (g g2 : Nat) (caps caps2 : List AV) (may : Nat → Nat → Nat → Bool) (carry : Nat → Nat → Bool)
    (hmay : ∀ c p d : Nat, c ≤ b.cords.length → p < b.places.toNat → d < b.base.toNat → Ctr Try.prog g ([.int c, .int p, .int d] ++ caps) (.bool (may c p d)))
    (hcarry : ∀ p n : Nat, p < b.places.toNat → n ≤ 50 → Ctr Try.prog g2 ([.int p, .int n] ++ caps2) (.bool (carry p n))) :
    Ctr Try.prog 71 [LM b (.clo g [] caps) (.clo g2 [] caps2)] (.agg [.int (solveL b may carry).k, .int (solveL b may carry).r]) := by
  refine ctr_of_wp hmix Try.func71 m71 rfl ?_
  unfold v71
  obtain ⟨hb1, hb2⟩ := hv.hb
  obtain ⟨hp1, hp2⟩ := hv.hp
  have hc4 := hv.hc
  obtain ⟨B, hB⟩ : ∃ B : Nat, b.base = B := ⟨b.base.toNat, by omega⟩
  obtain ⟨PL, hPL⟩ : ∃ p : Nat, b.places = p := ⟨b.places.toNat, by omega⟩
  have hBn : b.base.toNat = B := by omega
  have hPn : b.places.toNat = PL := by omega
  have he : (emptyL 0).length = 51 := okw_empty.len
  simp -failIfUnchanged (disch := first | omega | (simp [wcs_len] <;> omega) | fail) only [go_sem, simprocAttr]
  refine wcall (c105 0 (by omega)) ?_
  simp -failIfUnchanged (disch := first | omega | (simp [wcs_len] <;> omega) | fail) only [go_sem, simprocAttr]
  refine wp_loop' (Nat × List Wy) (fun x => ⟨[(1, .ptr 1 0), (2, .ptr 2 0), (3, .ptr 3 0), (4, .int ((x.1 : Int) - 1))],
    [(3, ⟨wcs x.2, false⟩), (2, ⟨[.int 0, .int 0], false⟩), (1, ⟨[.int b.base, .int b.places, .sl 1 (b.cords.map SS) .sh, SS b.top, .clo g [] caps, .clo g2 [] caps2], false⟩)], [], none⟩)
    (fun x => x.1 ≤ PL ∧ solveF b may carry x.1 x.2 = solveF b may carry PL (emptyL 0) ∧ Okw x.2) (fun x => x.1) (PL, emptyL 0) ⟨by simp, rfl, okw_empty⟩ ?_ ?_
  · simp -failIfUnchanged (disch := first | omega | (simp [wcs_len] <;> omega) | fail) only [go_sem, simprocAttr]
    omega
  · rintro ⟨q, now⟩ ⟨hq, hnow, hok⟩
    dsimp only at hq hnow hok ⊢
    have hnl := hok.len
    simp -failIfUnchanged (disch := first | omega | (simp [wcs_len] <;> omega) | fail) only [go_sem, simprocAttr]
    refine wcond_dec (fun h => ?_) (fun h => ?_)
    · obtain ⟨p, rfl⟩ : ∃ p, q = p + 1 := ⟨q - 1, by omega⟩
      rw [show ((p + 1 : Nat) : Int) - 1 = (p : Int) by omega]
      simp -failIfUnchanged (disch := first | omega | (simp [wcs_len] <;> omega) | fail) only [go_sem, simprocAttr]
      refine wp_loop' (Nat × List Wy) (fun x => ⟨[(1, .ptr 1 0), (2, .ptr 2 0), (3, .ptr 3 0), (4, .int p), (5, .ptr 5 0), (26, .int b.cords.length), (27, .int x.1)],
        [(5, ⟨wcs x.2, false⟩), (3, ⟨wcs now, false⟩), (2, ⟨[.int 0, .int 0], false⟩), (1, ⟨[.int b.base, .int b.places, .sl 1 (b.cords.map SS) .sh, SS b.top, .clo g [] caps, .clo g2 [] caps2], false⟩)], [], none⟩)
        (fun x => x.1 ≤ b.cords.length ∧ x.2 = colL b may p now x.1 ∧ Okw x.2) (fun x => b.cords.length - x.1) (0, now) ⟨by simp, rfl, hok⟩ (by simp -failIfUnchanged (disch := first | omega | (simp [wcs_len] <;> omega) | fail) only [go_sem, simprocAttr]; try simp) ?_
      rintro ⟨c, s⟩ ⟨hc, hs, hsk⟩
      dsimp only at hc hs hsk ⊢
      have hsl := hsk.len
      simp -failIfUnchanged (disch := first | omega | (simp [wcs_len] <;> omega) | fail) only [go_sem, simprocAttr]
      refine wcond_dec (fun hl => ?_) (fun hl => ?_)
      · simp -failIfUnchanged (disch := first | omega | (simp [wcs_len] <;> omega) | fail) only [go_sem, simprocAttr]
        have hcl : c < b.cords.length := by omega
        have hcd := hv.cord b.cords[c] (List.getElem_mem hcl)
        have hpl : p < b.cords[c].length := by omega
        have hsp := hcd.2 _ (List.getElem_mem hpl)
        have esp : spAt b c p = b.cords[c][p] := by simp [spAt, hcl, hpl]
        refine wcall (c106 b g g2 caps caps2 (may c p) s c p b.cords[c] b.cords[c][p] (by omega) (by omega) (List.getElem?_eq_getElem hcl) (List.getElem?_eq_getElem hpl) (by omega) (by omega) (fun d hd => hmay c p d (by omega) (by omega) (by omega)) hsk) ?_
        have hml : (moreL b.base.toNat (may c p) (fun d => costL b.cords[c][p] d) s).length = 51 := (okw_moreL hsk (by omega) (fun d => costL_nonneg _ _)).len
        simp -failIfUnchanged (disch := first | omega | (simp [wcs_len] <;> omega) | fail) only [go_sem, simprocAttr]
        refine ⟨(c + 1, colL b may p now (c + 1)), ⟨by omega, rfl, okw_colL hok (by omega) _⟩, by dsimp only; omega, ?_⟩
        have ec : colL b may p now (c + 1) = moreL b.base.toNat (may c p) (fun d => costL b.cords[c][p] d) s := by
          unfold colL at hs ⊢
          rw [List.range_succ, List.foldl_append, ← hs]
          simp only [List.foldl_cons, List.foldl_nil, esp]
        rw [ec]
        simp -failIfUnchanged (disch := first | omega | (simp [wcs_len] <;> omega) | fail) only [go_sem, simprocAttr]
        try simp
      · simp -failIfUnchanged (disch := first | omega | (simp [wcs_len] <;> omega) | fail) only [go_sem, simprocAttr]
        refine wcall (c105 0 (by omega)) ?_
        simp -failIfUnchanged (disch := first | omega | (simp [wcs_len] <;> omega) | fail) only [go_sem, simprocAttr]
        have ecl : c = b.cords.length := by omega
        rw [ecl] at hs
        have em : ∀ n : Nat, Int.tmod (n : Int) b.base = ((n % b.base.toNat : Nat) : Int) := fun n => by rw [hBn, hB]; rfl
        have eq : ∀ n : Nat, Int.tdiv (n : Int) b.base = ((n / b.base.toNat : Nat) : Int) := fun n => by rw [hBn, hB]; rfl
        refine wp_loop' (Nat × List Wy) (fun x => ⟨[(1, .ptr 1 0), (2, .ptr 2 0), (3, .ptr 3 0), (4, .int p), (39, .agg (wcs s)), (40, .int x.1)],
          [(3, ⟨wcs x.2, false⟩), (2, ⟨[.int 0, .int 0], false⟩), (1, ⟨[.int b.base, .int b.places, .sl 1 (b.cords.map SS) .sh, SS b.top, .clo g [] caps, .clo g2 [] caps2], false⟩)], [], none⟩)
          (fun x => x.1 ≤ 51 ∧ x.2 = (List.range x.1).foldl (topN b may carry p s) ((emptyL 0).set 0 ⟨1048576, 0⟩)) (fun x => 51 - x.1) (0, (emptyL 0).set 0 ⟨1048576, 0⟩) ⟨by simp, rfl⟩ (by simp -failIfUnchanged (disch := first | omega | (simp [wcs_len] <;> omega) | fail) only [go_sem, simprocAttr]; try simp) ?_
        rintro ⟨n, u⟩ ⟨hn, hu⟩
        dsimp only at hn hu ⊢
        have huk : Okw u := by
          rw [hu, hs]
          exact okw_stepL hok (by omega) n hn
        have hul := huk.len
        simp -failIfUnchanged (disch := first | omega | (simp [wcs_len] <;> omega) | fail) only [go_sem, simprocAttr]
        refine wcond_dec (fun hl2 => ?_) (fun hl2 => ?_)
        · have hq1 : n / b.base.toNat ≤ n := Nat.div_le_self _ _
          have hq2 : n % b.base.toNat < b.base.toNat := Nat.mod_lt _ (by omega)
          have hn51 : n < 51 := by omega
          obtain ⟨dg, hdg⟩ : ∃ dg, n % b.base.toNat = dg := ⟨_, rfl⟩
          obtain ⟨ca, hca⟩ : ∃ ca, n / b.base.toNat = ca := ⟨_, rfl⟩
          rw [hdg] at hq2
          rw [hca] at hq1
          simp -failIfUnchanged (disch := first | omega | (simp [wcs_len] <;> omega) | fail) only [go_sem, simprocAttr, em, eq, hdg, hca]
          refine wcall (hmay b.cords.length p dg (by omega) (by omega) (by omega)) ?_
          simp -failIfUnchanged (disch := first | omega | (simp [wcs_len] <;> omega) | fail) only [go_sem, simprocAttr]
          have hnext : u = (List.range n).foldl (topN b may carry p s) ((emptyL 0).set 0 ⟨1048576, 0⟩) → topN b may carry p s u n = (List.range (n + 1)).foldl (topN b may carry p s) ((emptyL 0).set 0 ⟨1048576, 0⟩) := by
            intro hu
            rw [List.range_succ, List.foldl_append, ← hu]
            rfl
          refine WGd_bool (fun hm => ?_) (fun hm => ?_)
          · simp -failIfUnchanged (disch := first | omega | (simp [wcs_len] <;> omega) | fail) only [go_sem, simprocAttr, hm]
            refine wcall (hcarry p ca (by omega) (by omega)) ?_
            simp -failIfUnchanged (disch := first | omega | (simp [wcs_len] <;> omega) | fail) only [go_sem, simprocAttr]
            refine wcond_bool (fun hk => ?_) (fun hk => ?_)
            · simp -failIfUnchanged (disch := first | omega | (simp [wcs_len] <;> omega) | fail) only [go_sem, simprocAttr]
              have et : topN b may carry p s u n = u := by
                have hk2 : carry p ca = false := by simpa using hk
                simp [topN, hdg, hca, hk2]
              refine ⟨(n + 1, topN b may carry p s u n), ⟨by omega, hnext hu⟩, by dsimp only; omega, ?_⟩
              rw [et]
              simp -failIfUnchanged (disch := first | omega | (simp [wcs_len] <;> omega) | fail) only [go_sem, simprocAttr]
              try simp
            · have hm2 : may b.cords.length p dg = true := by simpa using hm
              have hk2 : carry p ca = true := by simpa using hk
              have hpl : p < b.top.length := by have := hv.top.1; omega
              have htp := hv.top.2 _ (List.getElem_mem hpl)
              have etp : topAt b p = b.top[p] := by simp [topAt, hpl]
              have etp2 : b.top[p]?.getD default = b.top[p] := by simp [hpl]
              simp -failIfUnchanged (disch := first | omega | (simp [wcs_len] <;> omega) | fail) only [go_sem, simprocAttr, etp2]
              refine wcall (c73 b.top[p] dg (by omega) (by omega) (by omega)) ?_
              simp -failIfUnchanged (disch := first | omega | (simp [wcs_len] <;> omega) | fail) only [go_sem, simprocAttr]
              rw [show max (max 0 (b.top[p].lo - (dg : Int))) ((dg : Int) - b.top[p].hi) = costL b.top[p] dg from rfl]
              have hcost := costL_nonneg b.top[p] dg
              have hcost2 : costL b.top[p] dg ≤ 2000 := by unfold costL; omega
              have ku0 := huk.k0 ca (by omega)
              have ku1 := huk.k1 ca (by omega)
              have ks0 := hsk.k0 n (by omega)
              have ks1 := hsk.k1 n (by omega)
              generalize hco : costL b.top[p] dg = co at hcost hcost2
              simp -failIfUnchanged (disch := first | omega | (simp [wcs_len] <;> omega) | fail) only [go_sem, simprocAttr]
              have hca51 : ca < 51 := by omega
              refine wcond_dec (fun h0 => ?_) (fun h0 => ?_)
              · simp -failIfUnchanged (disch := first | omega | (simp [wcs_len] <;> omega) | fail) only [go_sem, simprocAttr]
                refine ⟨(n + 1, topN b may carry p s u n), ⟨by omega, hnext hu⟩, by dsimp only; omega, ?_⟩
                simp -failIfUnchanged (disch := first | omega | (simp [wcs_len] <;> omega) | fail) only [go_sem, simprocAttr]
                have eg : ∀ x : Wy, (u.set ca x)[ca]?.getD default = x := fun x => by simp [hul, hca51]
                simp only [topN, hdg, hca, hm2, hk2, etp, hco, h0, Bool.and_self, if_true, eg, List.set_set]
                simp
              · simp -failIfUnchanged (disch := first | omega | (simp [wcs_len] <;> omega) | fail) only [go_sem, simprocAttr]
                refine ⟨(n + 1, topN b may carry p s u n), ⟨by omega, hnext hu⟩, by dsimp only; omega, ?_⟩
                simp -failIfUnchanged (disch := first | omega | (simp [wcs_len] <;> omega) | fail) only [go_sem, simprocAttr]
                simp [topN, hdg, hca, hm2, hk2, etp, hco, h0]
          · simp -failIfUnchanged (disch := first | omega | (simp [wcs_len] <;> omega) | fail) only [go_sem, simprocAttr, hm]
            have hm2 : may b.cords.length p dg = false := by simpa using hm
            have et : topN b may carry p s u n = u := by simp [topN, hdg, hca, hm2]
            refine ⟨(n + 1, topN b may carry p s u n), ⟨by omega, hnext hu⟩, by dsimp only; omega, ?_⟩
            rw [et]
            simp -failIfUnchanged (disch := first | omega | (simp [wcs_len] <;> omega) | fail) only [go_sem, simprocAttr]
            try simp
        · simp -failIfUnchanged (disch := first | omega | (simp [wcs_len] <;> omega) | fail) only [go_sem, simprocAttr]
          have en : n = 51 := by omega
          rw [en, hs] at hu
          refine ⟨(p, u), ⟨by omega, ?_, huk⟩, by dsimp only; omega, ?_⟩
          · dsimp only
            rw [← hnow, hu]
            rfl
          · simp -failIfUnchanged (disch := first | omega | (simp [wcs_len] <;> omega) | fail) only [go_sem, simprocAttr]
    · simp -failIfUnchanged (disch := first | omega | (simp [wcs_len] <;> omega) | fail) only [go_sem, simprocAttr]
      have e0 : q = 0 := by omega
      subst e0
      have : solveL b may carry = now[0]?.getD default := by
        unfold solveL
        rw [hPn, ← hnow]
        rfl
      rw [this]

end Go.Proofs.Ytkkiipjfbebipaa

/- Looms; Many and Retie. -/
set_option linter.unusedSimpArgs false
set_option linter.unusedVariables false
set_option linter.unnecessarySimpa false
namespace Go.Proofs.Ytkkiipjfbebipaa
open Go Go.V

theorem c100 (c p d : Int) : Ctr Try.prog 100 [.int c, .int p, .int d] (.bool true) := by
  refine ctr_of_wp hmix Try.func100 m100 rfl ?_
  unfold v100
  simp -failIfUnchanged (disch := first | omega | (simp [wcs_len] <;> omega) | fail) only [go_sem, simprocAttr]

theorem c101 (c p : Int) : Ctr Try.prog 101 [.int c, .int p] (.bool true) := by
  refine ctr_of_wp hmix Try.func101 m101 rfl ?_
  unfold v101
  simp -failIfUnchanged (disch := first | omega | (simp [wcs_len] <;> omega) | fail) only [go_sem, simprocAttr]

theorem ag74 : aggOf Try.prog 74 = some true := by kernel_rfl
theorem sz74 : szOf Try.prog 74 = some 6 := by kernel_rfl

attribute [go_sem] ag74 sz74

theorem c64 (b : Bk) : Ctr Try.prog 64 [KB b] (LM b (.clo 100 [] []) (.clo 101 [] [])) := by
  refine ctr_of_wp hmix Try.func64 m64 rfl ?_
  unfold v64
  simp -failIfUnchanged (disch := first | omega | (simp [wcs_len] <;> omega) | fail) only [go_sem, simprocAttr]

def onlyF (may : Nat → Nat → Nat → Bool) (cord place digit : Nat) (c p d : Nat) : Bool := may c p d && (decide (¬ c = cord) || (decide (¬ p = place) || decide (d = digit)))

abbrev capsO (g : Nat) (caps : List AV) (cord place digit : Nat) : List AV :=
  [.ref 1 [.agg [.clo g [] caps]] 0 0, .ref 1 [.agg [.int cord]] 0 0, .ref 1 [.agg [.int place]] 0 0, .ref 1 [.agg [.int digit]] 0 0]

theorem c108 (g : Nat) (caps : List AV) (may : Nat → Nat → Nat → Bool) (cord place digit c p d : Nat)
    (hmay : Ctr Try.prog g ([.int c, .int p, .int d] ++ caps) (.bool (may c p d))) :
    Ctr Try.prog 108 ([.int c, .int p, .int d] ++ capsO g caps cord place digit) (.bool (onlyF may cord place digit c p d)) := by
  refine ctr_of_wp hmix Try.func108 m108 rfl ?_
  unfold v108
  simp -failIfUnchanged (disch := first | omega | (simp [wcs_len] <;> omega) | fail) only [go_sem, simprocAttr]
  refine wcall hmay ?_
  simp -failIfUnchanged (disch := first | omega | (simp [wcs_len] <;> omega) | fail) only [go_sem, simprocAttr]
  refine WGd_bool (fun h1 => ?_) (fun h1 => ?_)
  · simp -failIfUnchanged (disch := first | omega | (simp [wcs_len] <;> omega) | fail) only [go_sem, simprocAttr, h1]
    refine WGd_bool (fun h2 => ?_) (fun h2 => ?_)
    · simp -failIfUnchanged (disch := first | omega | (simp [wcs_len] <;> omega) | fail) only [go_sem, simprocAttr, h1, h2]
      refine WGd_bool (fun h3 => ?_) (fun h3 => ?_)
      · simp -failIfUnchanged (disch := first | omega | (simp [wcs_len] <;> omega) | fail) only [go_sem, simprocAttr, h1, h2, h3]
        simp only [decide_eq_false_iff_not, Decidable.not_not] at h2 h3
        have e2 : c = cord := by omega
        have e3 : p = place := by omega
        have e4 : ((d : Int) = (digit : Int)) ↔ d = digit := by omega
        rw [e2, e3] at h1
        simp [onlyF, h1, e2, e3, e4]
      · simp -failIfUnchanged (disch := first | omega | (simp [wcs_len] <;> omega) | fail) only [go_sem, simprocAttr, h1, h2, h3]
        simp only [Bool.not_false, decide_eq_true_eq] at h3
        have e3 : ¬ p = place := by omega
        simp [onlyF, h1, e3]
    · simp -failIfUnchanged (disch := first | omega | (simp [wcs_len] <;> omega) | fail) only [go_sem, simprocAttr, h1, h2]
      simp only [Bool.not_false, decide_eq_true_eq] at h2
      have e2 : ¬ c = cord := by omega
      simp [onlyF, h1, e2]
  · simp -failIfUnchanged (disch := first | omega | (simp [wcs_len] <;> omega) | fail) only [go_sem, simprocAttr, h1]
    simp only [Bool.not_true] at h1
    simp [onlyF, h1]

theorem c74 (b : Bk) (g g2 : Nat) (caps caps2 : List AV) (cord place digit : Nat) : Ctr Try.prog 74 [LM b (.clo g [] caps) (.clo g2 [] caps2), .int cord, .int place, .int digit] (LM b (.clo 108 [] (capsO g caps cord place digit)) (.clo g2 [] caps2)) := by
  refine ctr_of_wp hmix Try.func74 m74 rfl ?_
  unfold v74
  simp -failIfUnchanged (disch := first | omega | (simp [wcs_len] <;> omega) | fail) only [go_sem, simprocAttr]

theorem c65 (b : Bk) (hv : Val b) (g g2 : Nat) (caps caps2 : List AV) (may : Nat → Nat → Nat → Bool) (carry : Nat → Nat → Bool)
    (hmay : ∀ c p d : Nat, c ≤ b.cords.length → p < b.places.toNat → d < b.base.toNat → Ctr Try.prog g ([.int c, .int p, .int d] ++ caps) (.bool (may c p d)))
    (hcarry : ∀ p n : Nat, p < b.places.toNat → n ≤ 50 → Ctr Try.prog g2 ([.int p, .int n] ++ caps2) (.bool (carry p n))) :
    Ctr Try.prog 65 [LM b (.clo g [] caps) (.clo g2 [] caps2)] (.int (solveL b may carry).r) := by
  refine ctr_of_wp hmix Try.func65 m65 rfl ?_
  unfold v65
  simp -failIfUnchanged (disch := first | omega | (simp [wcs_len] <;> omega) | fail) only [go_sem, simprocAttr]
  refine wcall (c71 b hv g g2 caps caps2 may carry hmay hcarry) ?_
  simp -failIfUnchanged (disch := first | omega | (simp [wcs_len] <;> omega) | fail) only [go_sem, simprocAttr]

theorem val_of_check {b : Bk} (h : checkB b = true) : Val b := by
  simp only [checkB, within, isCordB, Bool.and_eq_true, decide_eq_true_eq, Bool.not_eq_true', List.any_eq_false, Bool.not_eq_true, Bool.not_eq_false'] at h
  obtain ⟨h1, h2, h3, h4, h5, h6⟩ := h
  have key : ∀ s : Sp, badS b s = false → 0 ≤ s.lo ∧ s.lo ≤ s.hi ∧ s.hi < b.base := by
    intro s hs
    simp only [badS, within, Bool.or_eq_false_iff, Bool.not_eq_false', decide_eq_true_eq, decide_eq_false_iff_not] at hs
    omega
  refine ⟨h1, h2, by omega, fun l hl => ?_, h5, fun s hs => key s (by simpa using h6 s hs)⟩
  have := h4 l hl
  simp only [Bool.and_eq_false_iff, decide_eq_false_iff_not, not_or, Decidable.not_not, Bool.not_eq_false', Bool.not_eq_true, List.any_eq_false] at this
  obtain ⟨k1, k2⟩ := this
  exact ⟨k1, fun s hs => key s (by simpa using k2 s hs)⟩

def yes3 (_ _ _ : Nat) : Bool := true
def yes2 (_ _ : Nat) : Bool := true

theorem c34 (b : Bk) (hs : Small b) : Ctr Try.prog 34 [KB b] (if checkB b then .tup [.int (solveL b yes3 yes2).r, .int 0] else .tup [.int 0, .int 110]) := by
  refine ctr_of_wp hmix Try.func34 m34 rfl ?_
  unfold v34
  simp -failIfUnchanged (disch := first | omega | (simp [wcs_len] <;> omega) | fail) only [go_sem, simprocAttr]
  refine wcall (c49 b hs) ?_
  cases hc : checkB b with
  | false => simp -failIfUnchanged (disch := first | omega | (simp [wcs_len] <;> omega) | fail) only [go_sem, simprocAttr]
  | true =>
    simp -failIfUnchanged (disch := first | omega | (simp [wcs_len] <;> omega) | fail) only [go_sem, simprocAttr]
    refine wcall (c64 b) ?_
    simp -failIfUnchanged (disch := first | omega | (simp [wcs_len] <;> omega) | fail) only [go_sem, simprocAttr]
    refine wcall (c65 b (val_of_check hc) 100 101 [] [] yes3 yes2 (fun c p d _ _ _ => c100 c p d) (fun p n _ _ => c101 p n)) ?_
    simp -failIfUnchanged (disch := first | omega | (simp [wcs_len] <;> omega) | fail) only [go_sem, simprocAttr]

theorem c23 (b : Bk) (hs : Small b) : Ctr Try.prog 23 [KB b] (if checkB b then .tup [.int (solveL b yes3 yes2).k, .int 0] else .tup [.int 0, .int 110]) := by
  refine ctr_of_wp hmix Try.func23 m23 rfl ?_
  unfold v23
  simp -failIfUnchanged (disch := first | omega | (simp [wcs_len] <;> omega) | fail) only [go_sem, simprocAttr]
  refine wcall (c49 b hs) ?_
  cases hc : checkB b with
  | false => simp -failIfUnchanged (disch := first | omega | (simp [wcs_len] <;> omega) | fail) only [go_sem, simprocAttr]
  | true =>
    simp -failIfUnchanged (disch := first | omega | (simp [wcs_len] <;> omega) | fail) only [go_sem, simprocAttr]
    refine wcall (c64 b) ?_
    simp -failIfUnchanged (disch := first | omega | (simp [wcs_len] <;> omega) | fail) only [go_sem, simprocAttr]
    refine wcall (c71 b (val_of_check hc) 100 101 [] [] yes3 yes2 (fun c p d _ _ _ => c100 c p d) (fun p n _ _ => c101 p n)) ?_
    simp -failIfUnchanged (disch := first | omega | (simp [wcs_len] <;> omega) | fail) only [go_sem, simprocAttr]

theorem c85 (b : Bk) (hs : Small b) (is : Bool) : Ctr Try.prog 85 [KB b, .bool is] (.int (if checkB b then if is then 0 else 1 else 110)) := by
  refine ctr_of_wp hmix Try.func85 m85 rfl ?_
  unfold v85
  simp -failIfUnchanged (disch := first | omega | (simp [wcs_len] <;> omega) | fail) only [go_sem, simprocAttr]
  refine wcall (c49 b hs) ?_
  cases hc : checkB b with
  | false => simp -failIfUnchanged (disch := first | omega | (simp [wcs_len] <;> omega) | fail) only [go_sem, simprocAttr]
  | true =>
    cases is with
    | false => simp -failIfUnchanged (disch := first | omega | (simp [wcs_len] <;> omega) | fail) only [go_sem, simprocAttr]
    | true => simp -failIfUnchanged (disch := first | omega | (simp [wcs_len] <;> omega) | fail) only [go_sem, simprocAttr]

end Go.Proofs.Ytkkiipjfbebipaa

/- All cords; numbers of digits; Read. -/
set_option linter.unusedSimpArgs false
set_option linter.unusedVariables false
set_option linter.unnecessarySimpa false
namespace Go.Proofs.Ytkkiipjfbebipaa
open Go Go.V

def allC (b : Bk) : List (List Sp) := b.cords ++ [b.top]

theorem wsliceF_len {next : AS → Prop} {σ : AS} {d : Option Nat} {sz : Nat} {es : List AV} {m : VM} {n : Int} (h : n = es.length) : WSliceF sz (.sl sz es m) none (some (.int n)) (some (.int n)) d next σ = next (put d (.sl sz es .full) σ) := by
  subst h
  exact wsliceF_all

theorem c66 (b : Bk) (hs : Small b) : Ctr Try.prog 66 [KB b] (.sl 1 ((allC b).map SS) .sh) := by
  refine ctr_of_wp hmix Try.func66 m66 rfl ?_
  unfold v66
  have h1 := hs.cords
  simp -failIfUnchanged (disch := first | omega | (simp [wcs_len] <;> omega) | fail) only [go_sem, simprocAttr]
  rw [wsliceF_len (by simp)]
  simp -failIfUnchanged (disch := first | omega | (simp [wcs_len] <;> omega) | fail) only [go_sem, simprocAttr]
  simp [allC]

/-- The number of digits, as the machine reckons. -/
def numL (base : Int) (l : List Int) : Int := l.foldl (fun n d => w64 (w64 (n * base) + d)) 0

theorem c81 (base : Int) (l : List Int) (hl : l.length < 4294967296) : Ctr Try.prog 81 [.int base, IS l] (.int (numL base l)) := by
  refine ctr_of_wp hmix Try.func81 m81 rfl ?_
  unfold v81 IS
  simp -failIfUnchanged (disch := first | omega | (simp [wcs_len] <;> omega) | fail) only [go_sem, simprocAttr]
  refine wp_loop' (Nat × Int) (fun x => ⟨[(0, .int base), (5, .int x.2), (8, IS l), (9, .int l.length), (10, .int x.1)], [], [], none⟩) (fun x => x.1 ≤ l.length ∧ x.2 = numL base (l.take x.1)) (fun x => l.length - x.1) (0, 0) (by simp [numL]) (by unfold IS; simp -failIfUnchanged (disch := first | omega | (simp [wcs_len] <;> omega) | fail) only [go_sem, simprocAttr]; try simp) ?_
  rintro ⟨i, n⟩ ⟨hi, hn⟩
  dsimp only at hi hn ⊢
  unfold IS
  simp -failIfUnchanged (disch := first | omega | (simp [wcs_len] <;> omega) | fail) only [go_sem, simprocAttr]
  refine wcond_dec (fun h => ?_) (fun h => ?_)
  · simp -failIfUnchanged (disch := first | omega | (simp [wcs_len] <;> omega) | fail) only [go_sem, simprocAttr]
    have hlt : i < l.length := by omega
    refine ⟨(i + 1, numL base (l.take (i + 1))), ⟨by omega, rfl⟩, by dsimp only; omega, ?_⟩
    have e : numL base (l.take (i + 1)) = w64 (w64 (n * base) + l[i]?.getD default) := by
      rw [hn]
      unfold numL
      rw [List.take_add_one, List.getElem?_eq_getElem hlt, List.foldl_append]
      rfl
    rw [e]
    simp -failIfUnchanged (disch := first | omega | (simp [wcs_len] <;> omega) | fail) only [go_sem, simprocAttr]
    try simp
  · simp -failIfUnchanged (disch := first | omega | (simp [wcs_len] <;> omega) | fail) only [go_sem, simprocAttr]
    have e : i = l.length := by omega
    rw [hn, e, List.take_length]

end Go.Proofs.Ytkkiipjfbebipaa

/- The reference: what is valid. -/
set_option linter.unusedSimpArgs false
set_option linter.unusedVariables false
set_option linter.unnecessarySimpa false
namespace Go.Proofs.Ytkkiipjfbebipaa
open Go Go.V

theorem c40 (n lo hi : Int) : Ctr Try.prog 40 [.int n, .int lo, .int hi] (.bool (within n lo hi)) := by
  refine ctr_of_wp hmix Try.func40 m40 rfl ?_
  unfold v40
  simp -failIfUnchanged (disch := first | omega | (simp [wcs_len] <;> omega) | fail) only [go_sem, simprocAttr]
  refine WGd_bool (fun h => ?_) (fun h => ?_)
  · simp -failIfUnchanged (disch := first | omega | (simp [wcs_len] <;> omega) | fail) only [go_sem, simprocAttr, h]
    simp only [decide_eq_true_eq] at h
    simp [within, h]
  · simp -failIfUnchanged (disch := first | omega | (simp [wcs_len] <;> omega) | fail) only [go_sem, simprocAttr, h]
    simp only [Bool.not_true, decide_eq_false_iff_not] at h
    simp [within, h]

theorem c76 (n lo hi : Int) : Ctr Try.prog 76 [.int n, .int lo, .int hi] (.bool (within n lo hi)) := by
  refine ctr_of_wp hmix Try.func76 m76 rfl ?_
  unfold v76
  simp -failIfUnchanged (disch := first | omega | (simp [wcs_len] <;> omega) | fail) only [go_sem, simprocAttr]
  refine wcall (c40 _ _ _) ?_
  simp -failIfUnchanged (disch := first | omega | (simp [wcs_len] <;> omega) | fail) only [go_sem, simprocAttr]

theorem c29 (b : Bk) (n : Int) : Ctr Try.prog 29 [KB b, .int n] (.bool (within n 0 b.cords.length)) := by
  refine ctr_of_wp hmix Try.func29 m29 rfl ?_
  unfold v29
  simp -failIfUnchanged (disch := first | omega | (simp [wcs_len] <;> omega) | fail) only [go_sem, simprocAttr]
  refine wcall (c76 _ _ _) ?_
  simp -failIfUnchanged (disch := first | omega | (simp [wcs_len] <;> omega) | fail) only [go_sem, simprocAttr]

theorem c30 (b : Bk) (n : Int) : Ctr Try.prog 30 [KB b, .int n] (.bool (within n 0 (w64 (b.places - 1)))) := by
  refine ctr_of_wp hmix Try.func30 m30 rfl ?_
  unfold v30
  simp -failIfUnchanged (disch := first | omega | (simp [wcs_len] <;> omega) | fail) only [go_sem, simprocAttr]
  refine wcall (c76 _ _ _) ?_
  simp -failIfUnchanged (disch := first | omega | (simp [wcs_len] <;> omega) | fail) only [go_sem, simprocAttr]

theorem badS_iff (b : Bk) (s : Sp) : badS b s = false ↔ within s.hi 0 (b.base - 1) = true ∧ within s.lo 0 s.hi = true := by
  simp only [badS, within, Bool.or_eq_false_iff, Bool.not_eq_false', decide_eq_true_eq, decide_eq_false_iff_not]
  omega

theorem c93 (b : Bk) (l : List Sp) (hb : 2 ≤ b.base ∧ b.base ≤ 10) (hl : l.length < 4294967296) : Ctr Try.prog 93 [KB b, SS l] (.bool (isCordB b l)) := by
  refine ctr_of_wp hmix Try.func93 m93 rfl ?_
  unfold v93
  simp -failIfUnchanged (disch := first | omega | (simp [wcs_len] <;> omega) | fail) only [go_sem, simprocAttr]
  refine wcond_dec (fun h => ?_) (fun h => ?_)
  · simp -failIfUnchanged (disch := first | omega | (simp [wcs_len] <;> omega) | fail) only [go_sem, simprocAttr]
    simp [isCordB, h]
  · simp only [Decidable.not_not] at h
    simp -failIfUnchanged (disch := first | omega | (simp [wcs_len] <;> omega) | fail) only [go_sem, simprocAttr]
    refine wp_loop' Nat (fun i => ⟨[(1, SS l), (2, .ptr 2 0), (5, .int i)], [(2, ⟨[.int b.base, .int b.places, .sl 1 (b.cords.map SS) .sh, SS b.top], false⟩)], [], none⟩) (fun i => i ≤ l.length ∧ ∀ x ∈ l.take i, badS b x = false) (fun i => l.length - i) 0 (by simp) (by simp -failIfUnchanged (disch := first | omega | (simp [wcs_len] <;> omega) | fail) only [go_sem, simprocAttr]; try rfl) ?_
    rintro i ⟨hi, hpre⟩
    simp -failIfUnchanged (disch := first | omega | (simp [wcs_len] <;> omega) | fail) only [go_sem, simprocAttr]
    refine wcond_dec (fun h2 => ?_) (fun h2 => ?_)
    · have hlt : i < l.length := by omega
      simp -failIfUnchanged (disch := first | omega | (simp [wcs_len] <;> omega) | fail) only [go_sem, simprocAttr]
      refine wcall (c76 _ _ _) ?_
      simp -failIfUnchanged (disch := first | omega | (simp [wcs_len] <;> omega) | fail) only [go_sem, simprocAttr]
      have no : badS b (l[i]?.getD default) = true → isCordB b l = false := by
        intro hx
        have : l.any (badS b) = true := List.any_eq_true.2 ⟨_, mem_getD hlt, hx⟩
        simp [isCordB, this]
      refine WGd_bool (fun h3 => ?_) (fun h3 => ?_)
      · simp -failIfUnchanged (disch := first | omega | (simp [wcs_len] <;> omega) | fail) only [go_sem, simprocAttr, h3]
        refine wcall (c76 _ _ _) ?_
        simp -failIfUnchanged (disch := first | omega | (simp [wcs_len] <;> omega) | fail) only [go_sem, simprocAttr]
        refine wcond_bool (fun h4 => ?_) (fun h4 => ?_)
        · simp -failIfUnchanged (disch := first | omega | (simp [wcs_len] <;> omega) | fail) only [go_sem, simprocAttr]
          rw [no]
          cases hx : badS b (l[i]?.getD default) with
          | true => rfl
          | false => rw [badS_iff] at hx; simp [hx.2] at h4
        · simp -failIfUnchanged (disch := first | omega | (simp [wcs_len] <;> omega) | fail) only [go_sem, simprocAttr]
          have hx : badS b (l[i]?.getD default) = false := by
            rw [badS_iff]
            simpa using And.intro h3 h4
          refine ⟨i + 1, ⟨by omega, take_succ_all hlt hpre hx⟩, by dsimp only; omega, ?_⟩
          simp -failIfUnchanged (disch := first | omega | (simp [wcs_len] <;> omega) | fail) only [go_sem, simprocAttr]
          try simp
      · simp -failIfUnchanged (disch := first | omega | (simp [wcs_len] <;> omega) | fail) only [go_sem, simprocAttr, h3]
        rw [no]
        cases hx : badS b (l[i]?.getD default) with
        | true => rfl
        | false => rw [badS_iff] at hx; simp [hx.1] at h3
    · simp -failIfUnchanged (disch := first | omega | (simp [wcs_len] <;> omega) | fail) only [go_sem, simprocAttr]
      have e : i = l.length := by omega
      rw [e, List.take_length] at hpre
      have : l.any (badS b) = false := List.any_eq_false.2 fun x hx => by simp [hpre x hx]
      simp [isCordB, this, h]

theorem c50 (b : Bk) (hs : Small b) : Ctr Try.prog 50 [KB b] (.int (if checkB b then 0 else 110)) := by
  refine ctr_of_wp hmix Try.func50 m50 rfl ?_
  unfold v50
  simp -failIfUnchanged (disch := first | omega | (simp [wcs_len] <;> omega) | fail) only [go_sem, simprocAttr]
  refine wcall (c76 _ _ _) ?_
  simp -failIfUnchanged (disch := first | omega | (simp [wcs_len] <;> omega) | fail) only [go_sem, simprocAttr]
  refine WGd_bool (fun h1 => ?_) (fun h1 => ?_)
  · simp -failIfUnchanged (disch := first | omega | (simp [wcs_len] <;> omega) | fail) only [go_sem, simprocAttr, h1]
    have hb : 2 ≤ b.base ∧ b.base ≤ 10 := by simpa [within] using h1
    refine wcall (c76 _ _ _) ?_
    simp -failIfUnchanged (disch := first | omega | (simp [wcs_len] <;> omega) | fail) only [go_sem, simprocAttr]
    refine WGd_bool (fun h2 => ?_) (fun h2 => ?_)
    · simp -failIfUnchanged (disch := first | omega | (simp [wcs_len] <;> omega) | fail) only [go_sem, simprocAttr, h2]
      refine WGd_bool (fun h3 => ?_) (fun h3 => ?_)
      · simp -failIfUnchanged (disch := first | omega | (simp [wcs_len] <;> omega) | fail) only [go_sem, simprocAttr, h3]
        refine wcall (c93 b b.top hb hs.top) ?_
        simp -failIfUnchanged (disch := first | omega | (simp [wcs_len] <;> omega) | fail) only [go_sem, simprocAttr]
        refine wcond_bool (fun h4 => ?_) (fun h4 => ?_)
        · simp -failIfUnchanged (disch := first | omega | (simp [wcs_len] <;> omega) | fail) only [go_sem, simprocAttr]
          simp_all [checkB]
        · simp -failIfUnchanged (disch := first | omega | (simp [wcs_len] <;> omega) | fail) only [go_sem, simprocAttr]
          refine wp_loop' Nat (fun i => ⟨[(1, .ptr 1 0), (3, .int i)], [(1, ⟨[.int b.base, .int b.places, .sl 1 (b.cords.map SS) .sh, SS b.top], false⟩)], [], none⟩) (fun i => i ≤ b.cords.length ∧ ∀ x ∈ b.cords.take i, (!isCordB b x) = false) (fun i => b.cords.length - i) 0 (by simp) (by simp -failIfUnchanged (disch := first | omega | (simp [wcs_len] <;> omega) | fail) only [go_sem, simprocAttr]; try rfl) ?_
          rintro i ⟨hi, hpre⟩
          have hcl := hs.cords
          simp -failIfUnchanged (disch := first | omega | (simp [wcs_len] <;> omega) | fail) only [go_sem, simprocAttr]
          refine wcond_dec (fun h5 => ?_) (fun h5 => ?_)
          · have hlt : i < b.cords.length := by omega
            simp -failIfUnchanged (disch := first | omega | (simp [wcs_len] <;> omega) | fail) only [go_sem, simprocAttr]
            refine wcall (c93 b _ hb (hs.each _ (mem_getD hlt))) ?_
            simp -failIfUnchanged (disch := first | omega | (simp [wcs_len] <;> omega) | fail) only [go_sem, simprocAttr]
            refine wcond_bool (fun h6 => ?_) (fun h6 => ?_)
            · simp -failIfUnchanged (disch := first | omega | (simp [wcs_len] <;> omega) | fail) only [go_sem, simprocAttr]
              have : b.cords.any (fun l => !isCordB b l) = true := List.any_eq_true.2 ⟨_, mem_getD hlt, h6⟩
              have hc : checkB b = false := by
                simp only [checkB, this]
                simp
              simp [hc]
            · simp -failIfUnchanged (disch := first | omega | (simp [wcs_len] <;> omega) | fail) only [go_sem, simprocAttr]
              refine ⟨i + 1, ⟨by omega, take_succ_all (p := fun x => !isCordB b x) hlt hpre h6⟩, by dsimp only; omega, ?_⟩
              simp -failIfUnchanged (disch := first | omega | (simp [wcs_len] <;> omega) | fail) only [go_sem, simprocAttr]
              try simp
          · simp -failIfUnchanged (disch := first | omega | (simp [wcs_len] <;> omega) | fail) only [go_sem, simprocAttr]
            have e : i = b.cords.length := by omega
            rw [e, List.take_length] at hpre
            have : b.cords.any (fun l => !isCordB b l) = false := List.any_eq_false.2 fun x hx => by simp [hpre x hx]
            have hc : checkB b = true := by
              simp only [checkB, this]
              simp at h1 h2 h3 h4
              simp [h1, h2, h3, h4]
            simp [hc]
      · simp -failIfUnchanged (disch := first | omega | (simp [wcs_len] <;> omega) | fail) only [go_sem, simprocAttr, h3]
        simp_all [checkB]
        intro hc
        omega
    · simp -failIfUnchanged (disch := first | omega | (simp [wcs_len] <;> omega) | fail) only [go_sem, simprocAttr, h2]
      simp_all [checkB]
  · simp -failIfUnchanged (disch := first | omega | (simp [wcs_len] <;> omega) | fail) only [go_sem, simprocAttr, h1]
    simp_all [checkB]

/-- How many numbers. -/
def allN (b : Bk) : Nat := b.base.toNat ^ b.places.toNat

theorem pow_le {B P : Nat} (hB : B ≤ 10) (hP : P ≤ 4) : B ^ P ≤ 10000 :=
  Nat.le_trans (Nat.pow_le_pow_left hB P) (Nat.le_trans (Nat.pow_le_pow_right (by omega) hP) (by decide))

theorem c41 (b : Bk) (hv : Val b) : Ctr Try.prog 41 [KB b] (.int (allN b)) := by
  refine ctr_of_wp hmix Try.func41 m41 rfl ?_
  unfold v41
  obtain ⟨hb1, hb2⟩ := hv.hb
  obtain ⟨hp1, hp2⟩ := hv.hp
  simp -failIfUnchanged (disch := first | omega | (simp [wcs_len] <;> omega) | fail) only [go_sem, simprocAttr]
  refine wp_loop' Nat (fun i => ⟨[(1, .ptr 1 0), (3, .int (b.base.toNat ^ i : Nat)), (4, .int i)], [(1, ⟨[.int b.base, .int b.places, .sl 1 (b.cords.map SS) .sh, SS b.top], false⟩)], [], none⟩) (fun i => i ≤ b.places.toNat) (fun i => b.places.toNat - i) 0 (by simp) (by simp -failIfUnchanged (disch := first | omega | (simp [wcs_len] <;> omega) | fail) only [go_sem, simprocAttr]; try simp) ?_
  rintro i hi
  simp -failIfUnchanged (disch := first | omega | (simp [wcs_len] <;> omega) | fail) only [go_sem, simprocAttr]
  refine wcond_dec (fun h => ?_) (fun h => ?_)
  · have e : ((b.base.toNat ^ i : Nat) : Int) * b.base = ((b.base.toNat ^ (i + 1) : Nat) : Int) := by
      rw [Nat.pow_succ, Int.natCast_mul, Int.toNat_of_nonneg (by omega : 0 ≤ b.base)]
    have hle := pow_le (B := b.base.toNat) (P := i + 1) (by omega) (by omega)
    simp -failIfUnchanged (disch := first | omega | (simp [wcs_len] <;> omega) | fail) only [go_sem, simprocAttr, e]
    refine ⟨i + 1, by omega, by dsimp only; omega, ?_⟩
    simp -failIfUnchanged (disch := first | omega | (simp [wcs_len] <;> omega) | fail) only [go_sem, simprocAttr]
    try simp
  · simp -failIfUnchanged (disch := first | omega | (simp [wcs_len] <;> omega) | fail) only [go_sem, simprocAttr]
    have e : i = b.places.toNat := by omega
    rw [e]
    rfl

end Go.Proofs.Ytkkiipjfbebipaa

/- The reference: digits, numbers, readings. -/
set_option linter.unusedSimpArgs false
set_option linter.unusedVariables false
set_option linter.unnecessarySimpa false
namespace Go.Proofs.Ytkkiipjfbebipaa
open Go Go.V

/-- The cord, the top one too. -/
def cordAt (b : Bk) (n : Nat) : List Sp := if n = b.cords.length then b.top else b.cords[n]?.getD default

theorem c32 (b : Bk) (n : Nat) (hn : n ≤ b.cords.length) : Ctr Try.prog 32 [KB b, .int n] (SS (cordAt b n)) := by
  refine ctr_of_wp hmix Try.func32 m32 rfl ?_
  unfold v32
  simp -failIfUnchanged (disch := first | omega | (simp [wcs_len] <;> omega) | fail) only [go_sem, simprocAttr]
  refine wcond_dec (fun h => ?_) (fun h => ?_)
  · simp -failIfUnchanged (disch := first | omega | (simp [wcs_len] <;> omega) | fail) only [go_sem, simprocAttr]
    have e : n = b.cords.length := by omega
    simp [cordAt, e]
  · have e : ¬ n = b.cords.length := by omega
    have hlt : n < b.cords.length := by omega
    simp -failIfUnchanged (disch := first | omega | (simp [wcs_len] <;> omega) | fail) only [go_sem, simprocAttr]
    simp [cordAt, e]

def fitsL (l : List Sp) (ds : List Int) : Bool := (List.range l.length).all fun i => within (ds[i]?.getD default) (l[i]?.getD default).lo (l[i]?.getD default).hi

theorem c99 (l : List Sp) (ds : List Int) (h1 : l.length < 4294967296) (h2 : l.length ≤ ds.length) : Ctr Try.prog 99 [SS l, IS ds] (.bool (fitsL l ds)) := by
  refine ctr_of_wp hmix Try.func99 m99 rfl ?_
  unfold v99 IS
  simp -failIfUnchanged (disch := first | omega | (simp [wcs_len] <;> omega) | fail) only [go_sem, simprocAttr]
  refine wp_loop' Nat (fun i => ⟨[(0, SS l), (1, IS ds), (5, .int i)], [], [], none⟩) (fun i => i ≤ l.length ∧ ∀ j, j < i → within (ds[j]?.getD default) (l[j]?.getD default).lo (l[j]?.getD default).hi = true) (fun i => l.length - i) 0 ⟨by simp, fun j hj => by omega⟩ (by unfold IS; simp -failIfUnchanged (disch := first | omega | (simp [wcs_len] <;> omega) | fail) only [go_sem, simprocAttr]; try rfl) ?_
  rintro i ⟨hi, hpre⟩
  unfold IS
  simp -failIfUnchanged (disch := first | omega | (simp [wcs_len] <;> omega) | fail) only [go_sem, simprocAttr]
  refine wcond_dec (fun h => ?_) (fun h => ?_)
  · have hlt : i < l.length := by omega
    simp -failIfUnchanged (disch := first | omega | (simp [wcs_len] <;> omega) | fail) only [go_sem, simprocAttr]
    refine wcall (c76 _ _ _) ?_
    simp -failIfUnchanged (disch := first | omega | (simp [wcs_len] <;> omega) | fail) only [go_sem, simprocAttr]
    refine wcond_bool (fun h4 => ?_) (fun h4 => ?_)
    · simp -failIfUnchanged (disch := first | omega | (simp [wcs_len] <;> omega) | fail) only [go_sem, simprocAttr]
      have : fitsL l ds = false := by
        unfold fitsL
        rw [List.all_eq_false]
        exact ⟨i, by simpa using hlt, by simpa using h4⟩
      rw [this]
    · simp -failIfUnchanged (disch := first | omega | (simp [wcs_len] <;> omega) | fail) only [go_sem, simprocAttr]
      refine ⟨i + 1, ⟨by omega, fun j hj => ?_⟩, by dsimp only; omega, ?_⟩
      · rcases Nat.lt_or_ge j i with hj2 | hj2
        · exact hpre j hj2
        · have : j = i := by omega
          subst this
          simpa using h4
      · simp -failIfUnchanged (disch := first | omega | (simp [wcs_len] <;> omega) | fail) only [go_sem, simprocAttr]
        simp
  · simp -failIfUnchanged (disch := first | omega | (simp [wcs_len] <;> omega) | fail) only [go_sem, simprocAttr]
    have e : i = l.length := by omega
    have : fitsL l ds = true := by
      unfold fitsL
      rw [List.all_eq_true]
      intro j hj
      exact hpre j (by rw [e]; simpa using hj)
    rw [this]

end Go.Proofs.Ytkkiipjfbebipaa

/- The reference: the digits of a number. -/
set_option linter.unusedSimpArgs false
set_option linter.unusedVariables false
set_option linter.unnecessarySimpa false
namespace Go.Proofs.Ytkkiipjfbebipaa
open Go Go.V

theorem zeros_ints (n : Nat) : zeros [.int 0] n = (List.replicate n (0 : Int)).map .int := by
  induction n with
  | zero => rfl
  | succ n ih => simp only [zeros, List.replicate_succ, List.map_cons, ih]; rfl

theorem setAt_ints {xs : List Int} {i : Nat} {x : Int} (h : i < xs.length) : setAt (xs.map .int) i [.int x] = (xs.set i x).map .int := by
  induction xs generalizing i with
  | nil => simp at h
  | cons w l ih =>
    cases i with
    | zero => rfl
    | succ i =>
      simp only [List.map_cons, setAt, List.set_cons_succ]
      rw [ih (by simpa using h)]

theorem map_ints {xs : List Int} {hp : List (Nat × BX)} : (xs.map AV.int).map (strip hp) = xs.map .int := by
  rw [List.map_map]
  rfl

theorem bids_ints {xs : List Int} : bids (xs.map AV.int) = [] := by
  induction xs with
  | nil => rfl
  | cons w l ih => simp only [List.map_cons, bids, AV.bid, AV.bid1, ih, List.append_nil]

theorem scopes_ints {τ : AS} {xs : List Int} : scopes τ (xs.map AV.int) = True := by
  induction xs with
  | nil => rfl
  | cons w l ih => simp only [List.map_cons, scopes, inScope, ih, and_self]

theorem chunks_ints {xs : List Int} {n : Nat} (h : n = xs.length) : chunks false 1 (xs.map AV.int) 0 n = xs.map .int := by
  subst h
  apply List.ext_getElem?
  intro i
  rcases Nat.lt_or_ge i xs.length with hi | hi
  · rw [chunks_get _ _ _ _ _ _ hi]
    simp [chunk, hi]
  · rw [List.getElem?_eq_none (by rw [chunks_length]; exact hi), List.getElem?_eq_none (by simpa using hi)]

attribute [go_sem] zeros_ints setAt_ints map_ints bids_ints scopes_ints

/-- The digits of a number. -/
def tieN (B : Nat) : Nat → Nat → List Int
  | 0, _ => []
  | P + 1, n => tieN B P (n / B) ++ [((n % B : Nat) : Int)]

theorem tieN_len (B : Nat) : ∀ P n, (tieN B P n).length = P
  | 0, _ => rfl
  | P + 1, n => by simp [tieN, tieN_len B P]

theorem c69 (b : Bk) (hv : Val b) (n : Nat) (hn : n < 4294967296) : Ctr Try.prog 69 [KB b, .int n] (IS (tieN b.base.toNat b.places.toNat n)) := by
  refine ctr_of_wp hmix Try.func69 m69 rfl ?_
  unfold v69 IS
  obtain ⟨hb1, hb2⟩ := hv.hb
  obtain ⟨hp1, hp2⟩ := hv.hp
  obtain ⟨P, hP⟩ : ∃ P, b.places.toNat = P := ⟨_, rfl⟩
  rw [hP]
  simp -failIfUnchanged (disch := first | omega | (simp [wcs_len] <;> omega) | fail) only [go_sem, simprocAttr, hP]
  have em : ∀ n : Nat, Int.tmod (n : Int) b.base = ((n % b.base.toNat : Nat) : Int) := fun n => by
    obtain ⟨B, hB⟩ : ∃ B : Nat, b.base = B := ⟨b.base.toNat, by omega⟩
    rw [hB]; rfl
  have eq : ∀ n : Nat, Int.tdiv (n : Int) b.base = ((n / b.base.toNat : Nat) : Int) := fun n => by
    obtain ⟨B, hB⟩ : ∃ B : Nat, b.base = B := ⟨b.base.toNat, by omega⟩
    rw [hB]; rfl
  refine wp_loop' (Nat × Nat × List Int) (fun x => ⟨[(1, .int x.2.1), (2, .ptr 2 0), (5, .bsl 9 0 1 P false), (6, .int ((x.1 : Int) - 1))], [(9, ⟨(List.replicate x.1 (0 : Int) ++ x.2.2).map .int, false⟩), (2, ⟨[.int b.base, .int b.places, .sl 1 (b.cords.map SS) .sh, SS b.top], false⟩)], [], none⟩)
    (fun x => x.1 ≤ P ∧ x.2.1 < 4294967296 ∧ x.2.2.length = P - x.1 ∧ tieN b.base.toNat x.1 x.2.1 ++ x.2.2 = tieN b.base.toNat P n) (fun x => x.1) (P, n, []) ⟨by simp, hn, by simp, by simp⟩ ?_ ?_
  · simp -failIfUnchanged (disch := first | omega | (simp [wcs_len] <;> omega) | fail) only [go_sem, simprocAttr]
    omega
  · rintro ⟨q, m, suf⟩ ⟨hq, hm, hsl, hsuf⟩
    dsimp only at hq hm hsl hsuf ⊢
    simp -failIfUnchanged (disch := first | omega | (simp [wcs_len] <;> omega) | fail) only [go_sem, simprocAttr]
    refine wcond_dec (fun h => ?_) (fun h => ?_)
    · obtain ⟨i, rfl⟩ : ∃ i, q = i + 1 := ⟨q - 1, by omega⟩
      rw [show ((i + 1 : Nat) : Int) - 1 = (i : Int) by omega]
      have hlen : (List.replicate (i + 1) (0 : Int) ++ suf).length = P := by simp; omega
      have hset : (List.replicate (i + 1) (0 : Int) ++ suf).set i ((m % b.base.toNat : Nat) : Int) = List.replicate i 0 ++ ((m % b.base.toNat : Nat) : Int) :: suf := by
        rw [List.replicate_succ', List.append_assoc, List.set_append_right _ _ (by simp)]
        simp
      have hdiv : m / b.base.toNat ≤ m := Nat.div_le_self _ _
      obtain ⟨m2, hm2⟩ : ∃ m2, m / b.base.toNat = m2 := ⟨_, rfl⟩
      rw [hm2] at hdiv
      generalize hxs : List.replicate (i + 1) (0 : Int) ++ suf = xs at hlen hset
      simp -failIfUnchanged (disch := first | omega | (simp [wcs_len] <;> omega) | fail) only [go_sem, simprocAttr, em, eq, hm2, Nat.mul_one]
      refine ⟨(i, m2, ((m % b.base.toNat : Nat) : Int) :: suf), ⟨by dsimp only; omega, by dsimp only; omega, by simp only [List.length_cons]; omega, ?_⟩, by dsimp only; omega, ?_⟩
      · rw [← hsuf]
        simp [tieN, hm2]
      · simp -failIfUnchanged (disch := first | omega | (simp [wcs_len] <;> omega) | fail) only [go_sem, simprocAttr, hset, Nat.mul_one]
    · simp -failIfUnchanged (disch := first | omega | (simp [wcs_len] <;> omega) | fail) only [go_sem, simprocAttr]
      have e : q = 0 := by omega
      subst e
      simp only [List.replicate_zero, List.nil_append] at hsuf ⊢
      have hs2 : suf.length = P := by omega
      have e2 : suf = tieN b.base.toNat P n := by
        rw [← hsuf]
        rfl
      rw [if_pos (by omega), chunks_ints hs2.symm, e2]
      exact ⟨rfl, rfl⟩

end Go.Proofs.Ytkkiipjfbebipaa

/- The reference: numbers of a cord. -/
set_option linter.unusedSimpArgs false
set_option linter.unusedVariables false
set_option linter.unnecessarySimpa false
namespace Go.Proofs.Ytkkiipjfbebipaa
open Go Go.V

theorem allN_le {b : Bk} (hv : Val b) : allN b ≤ 10000 := by
  obtain ⟨hb1, hb2⟩ := hv.hb
  obtain ⟨hp1, hp2⟩ := hv.hp
  exact pow_le (by omega) (by omega)

def sumL (l : List Int) : Int := l.foldl (fun n d => w64 (n + d)) 0

theorem c103 (l : List Int) (hl : l.length < 4294967296) : Ctr Try.prog 103 [IS l] (.int (sumL l)) := by
  refine ctr_of_wp hmix Try.func103 m103 rfl ?_
  unfold v103 IS
  simp -failIfUnchanged (disch := first | omega | (simp [wcs_len] <;> omega) | fail) only [go_sem, simprocAttr]
  refine wp_loop' (Nat × Int) (fun x => ⟨[(0, IS l), (3, .int x.2), (4, .int x.1)], [], [], none⟩) (fun x => x.1 ≤ l.length ∧ x.2 = sumL (l.take x.1)) (fun x => l.length - x.1) (0, 0) (by simp [sumL]) (by unfold IS; simp -failIfUnchanged (disch := first | omega | (simp [wcs_len] <;> omega) | fail) only [go_sem, simprocAttr]; try simp) ?_
  rintro ⟨i, n⟩ ⟨hi, hn⟩
  dsimp only at hi hn ⊢
  unfold IS
  simp -failIfUnchanged (disch := first | omega | (simp [wcs_len] <;> omega) | fail) only [go_sem, simprocAttr]
  refine wcond_dec (fun h => ?_) (fun h => ?_)
  · have hlt : i < l.length := by omega
    simp -failIfUnchanged (disch := first | omega | (simp [wcs_len] <;> omega) | fail) only [go_sem, simprocAttr]
    refine ⟨(i + 1, sumL (l.take (i + 1))), ⟨by omega, rfl⟩, by dsimp only; omega, ?_⟩
    have e : sumL (l.take (i + 1)) = w64 (n + l[i]?.getD default) := by
      rw [hn]
      unfold sumL
      rw [List.take_add_one, List.getElem?_eq_getElem hlt, List.foldl_append]
      rfl
    rw [e]
    simp -failIfUnchanged (disch := first | omega | (simp [wcs_len] <;> omega) | fail) only [go_sem, simprocAttr]
    try simp
  · simp -failIfUnchanged (disch := first | omega | (simp [wcs_len] <;> omega) | fail) only [go_sem, simprocAttr]
    have e : i = l.length := by omega
    rw [hn, e, List.take_length]

def isN (b : Bk) (cord : Nat) (freely : Bool) (n : Nat) : Bool := freely || fitsL (cordAt b cord) (tieN b.base.toNat b.places.toNat n)
def numsL (b : Bk) (cord : Nat) (freely : Bool) (m : Nat) : List Int := ((List.range m).filter (isN b cord freely)).map (fun n : Nat => (n : Int))

theorem numsL_succ {b : Bk} {cord : Nat} {freely : Bool} {m : Nat} : numsL b cord freely (m + 1) = if isN b cord freely m then numsL b cord freely m ++ [(m : Int)] else numsL b cord freely m := by
  unfold numsL
  rw [List.range_succ, List.filter_append]
  cases h : isN b cord freely m <;> simp [h]

theorem numsL_len {b : Bk} {cord : Nat} {freely : Bool} {m : Nat} : (numsL b cord freely m).length ≤ m := by
  unfold numsL
  rw [List.length_map]
  exact Nat.le_trans (List.length_filter_le _ _) (by simp)

theorem cordAt_val {b : Bk} (hv : Val b) {n : Nat} (hn : n ≤ b.cords.length) : ((cordAt b n).length : Int) = b.places ∧ ∀ s ∈ cordAt b n, 0 ≤ s.lo ∧ s.lo ≤ s.hi ∧ s.hi < b.base := by
  unfold cordAt
  split
  · exact hv.top
  · have hlt : n < b.cords.length := by omega
    exact hv.cord _ (mem_getD hlt)

theorem c104 (b : Bk) (hv : Val b) (cord : Nat) (hc : cord ≤ b.cords.length) (freely : Bool) : Ctr Try.prog 104 [KB b, .int cord, .bool freely] (IS (numsL b cord freely (allN b))) := by
  refine ctr_of_wp hmix Try.func104 m104 rfl ?_
  unfold v104 IS
  have hall := allN_le hv
  obtain ⟨hp1, hp2⟩ := hv.hp
  simp -failIfUnchanged (disch := first | omega | (simp [wcs_len] <;> omega) | fail) only [go_sem, simprocAttr]
  refine wp_loop' Nat (fun i => ⟨[(1, .int cord), (2, .bool freely), (3, .ptr 3 0), (7, .sl 1 ((numsL b cord freely i).map .int) (.own 7)), (8, .int i)], [(3, ⟨[.int b.base, .int b.places, .sl 1 (b.cords.map SS) .sh, SS b.top], false⟩)], [(7, (numsL b cord freely i).length)], none⟩) (fun i => i ≤ allN b) (fun i => allN b - i) 0 (by simp) (by simp -failIfUnchanged (disch := first | omega | (simp [wcs_len] <;> omega) | fail) only [go_sem, simprocAttr]; try simp [numsL]) ?_
  intro i hi
  have hnl : (numsL b cord freely i).length ≤ i := numsL_len
  simp -failIfUnchanged (disch := first | omega | (simp [wcs_len] <;> omega) | fail) only [go_sem, simprocAttr]
  refine wcall (c41 b hv) ?_
  simp -failIfUnchanged (disch := first | omega | (simp [wcs_len] <;> omega) | fail) only [go_sem, simprocAttr]
  refine wcond_dec (fun h => ?_) (fun h => ?_)
  · simp -failIfUnchanged (disch := first | omega | (simp [wcs_len] <;> omega) | fail) only [go_sem, simprocAttr]
    cases freely with
    | true =>
      simp -failIfUnchanged (disch := first | omega | (simp [wcs_len] <;> omega) | fail) only [go_sem, simprocAttr]
      refine ⟨i + 1, by omega, by dsimp only; omega, ?_⟩
      dsimp only
      rw [numsL_succ]
      simp -failIfUnchanged (disch := first | omega | (simp [wcs_len] <;> omega) | fail) only [go_sem, simprocAttr]
      simp [isN]
    | false =>
      simp -failIfUnchanged (disch := first | omega | (simp [wcs_len] <;> omega) | fail) only [go_sem, simprocAttr]
      refine wcall (c32 b cord hc) ?_
      simp -failIfUnchanged (disch := first | omega | (simp [wcs_len] <;> omega) | fail) only [go_sem, simprocAttr]
      refine wcall (c69 b hv i (by omega)) ?_
      simp -failIfUnchanged (disch := first | omega | (simp [wcs_len] <;> omega) | fail) only [go_sem, simprocAttr]
      have hcv := (cordAt_val hv hc).1
      refine wcall (c99 (cordAt b cord) (tieN b.base.toNat b.places.toNat i) (by omega) (by rw [tieN_len]; omega)) ?_
      simp -failIfUnchanged (disch := first | omega | (simp [wcs_len] <;> omega) | fail) only [go_sem, simprocAttr]
      have ei : isN b cord false i = fitsL (cordAt b cord) (tieN b.base.toNat b.places.toNat i) := by simp [isN]
      refine wcond_bool (fun hb => ?_) (fun hb => ?_)
      · simp -failIfUnchanged (disch := first | omega | (simp [wcs_len] <;> omega) | fail) only [go_sem, simprocAttr]
        refine ⟨i + 1, by omega, by dsimp only; omega, ?_⟩
        dsimp only
        rw [numsL_succ, ei, hb]
        simp -failIfUnchanged (disch := first | omega | (simp [wcs_len] <;> omega) | fail) only [go_sem, simprocAttr]
        try simp
      · simp -failIfUnchanged (disch := first | omega | (simp [wcs_len] <;> omega) | fail) only [go_sem, simprocAttr]
        refine ⟨i + 1, by omega, by dsimp only; omega, ?_⟩
        dsimp only
        rw [numsL_succ, ei, hb]
        simp -failIfUnchanged (disch := first | omega | (simp [wcs_len] <;> omega) | fail) only [go_sem, simprocAttr]
        try simp
  · simp -failIfUnchanged (disch := first | omega | (simp [wcs_len] <;> omega) | fail) only [go_sem, simprocAttr]
    have e : i = allN b := by omega
    rw [e]

end Go.Proofs.Ytkkiipjfbebipaa

/- The reference: all lists of numbers. -/
set_option linter.unusedSimpArgs false
set_option linter.unusedVariables false
set_option linter.unnecessarySimpa false
namespace Go.Proofs.Ytkkiipjfbebipaa
open Go Go.V

abbrev ISS (ls : List (List Int)) : AV := .sl 1 (ls.map IS) .sh
abbrev nat (l : List Nat) : List Int := l.map (fun n : Nat => (n : Int))

/-- All lists that begin with some numbers, k cords being left. -/
def sumsF (b : Bk) (freely : Bool) : Nat → List Nat → List (List Int)
  | 0, first => if first.sum < allN b && (freely || fitsL b.top (tieN b.base.toNat b.places.toNat first.sum)) then [nat (first ++ [first.sum])] else []
  | k + 1, first => ((List.range (allN b)).filter (isN b first.length freely)).flatMap fun n => sumsF b freely k (first ++ [n])

theorem sumL_nat {l : List Nat} (h : l.sum < 4294967296) : sumL (nat l) = l.sum := by
  have key : ∀ (l : List Nat) (a : Nat), a + l.sum < 4294967296 → (nat l).foldl (fun n d => w64 (n + d)) (a : Int) = ((a + l.sum : Nat) : Int) := by
    intro l
    induction l with
    | nil => intro a _; simp
    | cons x r ih =>
      intro a ha
      simp only [List.sum_cons] at ha
      simp only [nat, List.map_cons, List.foldl_cons, List.sum_cons]
      rw [w64_id (by omega), show (a : Int) + (x : Int) = ((a + x : Nat) : Int) by omega]
      rw [ih (a + x) (by omega)]
      congr 1
      omega
  have := key l 0 (by omega)
  simpa [sumL] using this

theorem c68 (b : Bk) (hv : Val b) (freely : Bool) : ∀ (k : Nat) (first : List Nat), first.length + k = b.cords.length → (∀ x ∈ first, x ≤ 10000) → (sumsF b freely k first).length < 4294967296 →
    Ctr Try.prog 68 [KB b, IS (nat first), .bool freely] (ISS (sumsF b freely k first)) := by
  intro k
  induction k with
  | zero =>
    intro first hk hx hlen
    refine ctr_of_wp hmix Try.func68 m68 rfl ?_
    unfold v68
    have hc4 := hv.hc
    have hall := allN_le hv
    obtain ⟨hp1, hp2⟩ := hv.hp
    have hnl : (nat first).length = b.cords.length := by simp; omega
    have hsum : first.sum ≤ 40000 := by
      have : ∀ l : List Nat, (∀ x ∈ l, x ≤ 10000) → l.sum ≤ l.length * 10000 := by
        intro l
        induction l with
        | nil => simp
        | cons x r ih =>
          intro h
          have h1 := h x (by simp)
          have h2 := ih fun y hy => h y (by simp [hy])
          simp only [List.sum_cons, List.length_cons, Nat.add_mul]
          omega
      have := this first hx
      omega
    simp -failIfUnchanged (disch := first | omega | (simp only [List.length_map, List.length_append, List.length_cons, List.length_nil, List.length_take, List.length_drop, cells_int, cells_bool, cells_agg, cells_sl, cells_clo, cells_und, wcs_len, List.length_replicate, List.length_set]; done) | (simp only [List.length_map, List.length_append, List.length_cons, List.length_nil, List.length_take, List.length_drop, cells_int, cells_bool, cells_agg, cells_sl, cells_clo, cells_und, wcs_len, List.length_replicate, List.length_set]; omega)) only [go_sem, simprocAttr]
    refine wcond_dec (fun h => ?_) (fun h => ?_)
    · simp -failIfUnchanged (disch := first | omega | (simp only [List.length_map, List.length_append, List.length_cons, List.length_nil, List.length_take, List.length_drop, cells_int, cells_bool, cells_agg, cells_sl, cells_clo, cells_und, wcs_len, List.length_replicate, List.length_set]; done) | (simp only [List.length_map, List.length_append, List.length_cons, List.length_nil, List.length_take, List.length_drop, cells_int, cells_bool, cells_agg, cells_sl, cells_clo, cells_und, wcs_len, List.length_replicate, List.length_set]; omega)) only [go_sem, simprocAttr]
      refine wcall (c103 (nat first) (by simp; omega)) ?_
      rw [sumL_nat (by omega)]
      simp -failIfUnchanged (disch := first | omega | (simp only [List.length_map, List.length_append, List.length_cons, List.length_nil, List.length_take, List.length_drop, cells_int, cells_bool, cells_agg, cells_sl, cells_clo, cells_und, wcs_len, List.length_replicate, List.length_set]; done) | (simp only [List.length_map, List.length_append, List.length_cons, List.length_nil, List.length_take, List.length_drop, cells_int, cells_bool, cells_agg, cells_sl, cells_clo, cells_und, wcs_len, List.length_replicate, List.length_set]; omega)) only [go_sem, simprocAttr]
      refine wcall (c41 b hv) ?_
      have htl : b.top.length ≤ 4 := by have := hv.top.1; omega
      simp -failIfUnchanged (disch := first | omega | (simp only [List.length_map, List.length_append, List.length_cons, List.length_nil, List.length_take, List.length_drop, cells_int, cells_bool, cells_agg, cells_sl, cells_clo, cells_und, wcs_len, List.length_replicate, List.length_set]; done) | (simp only [List.length_map, List.length_append, List.length_cons, List.length_nil, List.length_take, List.length_drop, cells_int, cells_bool, cells_agg, cells_sl, cells_clo, cells_und, wcs_len, List.length_replicate, List.length_set]; omega)) only [go_sem, simprocAttr]
      cases freely with
      | true =>
        refine WGd_bool (fun h2 => ?_) (fun h2 => ?_)
        · simp -failIfUnchanged (disch := first | omega | (simp only [List.length_map, List.length_append, List.length_cons, List.length_nil, List.length_take, List.length_drop, cells_int, cells_bool, cells_agg, cells_sl, cells_clo, cells_und, wcs_len, List.length_replicate, List.length_set]; done) | (simp only [List.length_map, List.length_append, List.length_cons, List.length_nil, List.length_take, List.length_drop, cells_int, cells_bool, cells_agg, cells_sl, cells_clo, cells_und, wcs_len, List.length_replicate, List.length_set]; omega)) only [go_sem, simprocAttr, h2]
          simp only [decide_eq_false_iff_not] at h2
          have hs : first.sum < allN b := by omega
          simp [sumsF, hs]
        · simp -failIfUnchanged (disch := first | omega | (simp only [List.length_map, List.length_append, List.length_cons, List.length_nil, List.length_take, List.length_drop, cells_int, cells_bool, cells_agg, cells_sl, cells_clo, cells_und, wcs_len, List.length_replicate, List.length_set]; done) | (simp only [List.length_map, List.length_append, List.length_cons, List.length_nil, List.length_take, List.length_drop, cells_int, cells_bool, cells_agg, cells_sl, cells_clo, cells_und, wcs_len, List.length_replicate, List.length_set]; omega)) only [go_sem, simprocAttr, h2]
          simp only [Bool.not_false, decide_eq_true_eq] at h2
          have hs : ¬ first.sum < allN b := by omega
          simp [sumsF, hs]
      | false =>
        refine WGd_bool (fun h2 => ?_) (fun h2 => ?_)
        · simp -failIfUnchanged (disch := first | omega | (simp only [List.length_map, List.length_append, List.length_cons, List.length_nil, List.length_take, List.length_drop, cells_int, cells_bool, cells_agg, cells_sl, cells_clo, cells_und, wcs_len, List.length_replicate, List.length_set]; done) | (simp only [List.length_map, List.length_append, List.length_cons, List.length_nil, List.length_take, List.length_drop, cells_int, cells_bool, cells_agg, cells_sl, cells_clo, cells_und, wcs_len, List.length_replicate, List.length_set]; omega)) only [go_sem, simprocAttr, h2]
          simp only [decide_eq_false_iff_not] at h2
          have hs : first.sum < allN b := by omega
          refine wcall (c69 b hv first.sum (by omega)) ?_
          simp -failIfUnchanged (disch := first | omega | (simp only [List.length_map, List.length_append, List.length_cons, List.length_nil, List.length_take, List.length_drop, cells_int, cells_bool, cells_agg, cells_sl, cells_clo, cells_und, wcs_len, List.length_replicate, List.length_set]; done) | (simp only [List.length_map, List.length_append, List.length_cons, List.length_nil, List.length_take, List.length_drop, cells_int, cells_bool, cells_agg, cells_sl, cells_clo, cells_und, wcs_len, List.length_replicate, List.length_set]; omega)) only [go_sem, simprocAttr]
          refine wcall (c99 b.top (tieN b.base.toNat b.places.toNat first.sum) (by omega) (by rw [tieN_len]; have := hv.top.1; omega)) ?_
          simp -failIfUnchanged (disch := first | omega | (simp only [List.length_map, List.length_append, List.length_cons, List.length_nil, List.length_take, List.length_drop, cells_int, cells_bool, cells_agg, cells_sl, cells_clo, cells_und, wcs_len, List.length_replicate, List.length_set]; done) | (simp only [List.length_map, List.length_append, List.length_cons, List.length_nil, List.length_take, List.length_drop, cells_int, cells_bool, cells_agg, cells_sl, cells_clo, cells_und, wcs_len, List.length_replicate, List.length_set]; omega)) only [go_sem, simprocAttr]
          refine wcond_bool (fun h3 => ?_) (fun h3 => ?_)
          · simp -failIfUnchanged (disch := first | omega | (simp only [List.length_map, List.length_append, List.length_cons, List.length_nil, List.length_take, List.length_drop, cells_int, cells_bool, cells_agg, cells_sl, cells_clo, cells_und, wcs_len, List.length_replicate, List.length_set]; done) | (simp only [List.length_map, List.length_append, List.length_cons, List.length_nil, List.length_take, List.length_drop, cells_int, cells_bool, cells_agg, cells_sl, cells_clo, cells_und, wcs_len, List.length_replicate, List.length_set]; omega)) only [go_sem, simprocAttr]
            have h4 : fitsL b.top (tieN b.base.toNat b.places.toNat first.sum) = false := by simpa using h3
            simp [sumsF, h4]
          · simp -failIfUnchanged (disch := first | omega | (simp only [List.length_map, List.length_append, List.length_cons, List.length_nil, List.length_take, List.length_drop, cells_int, cells_bool, cells_agg, cells_sl, cells_clo, cells_und, wcs_len, List.length_replicate, List.length_set]; done) | (simp only [List.length_map, List.length_append, List.length_cons, List.length_nil, List.length_take, List.length_drop, cells_int, cells_bool, cells_agg, cells_sl, cells_clo, cells_und, wcs_len, List.length_replicate, List.length_set]; omega)) only [go_sem, simprocAttr]
            have h4 : fitsL b.top (tieN b.base.toNat b.places.toNat first.sum) = true := by simpa using h3
            simp [sumsF, hs, h4]
        · simp -failIfUnchanged (disch := first | omega | (simp only [List.length_map, List.length_append, List.length_cons, List.length_nil, List.length_take, List.length_drop, cells_int, cells_bool, cells_agg, cells_sl, cells_clo, cells_und, wcs_len, List.length_replicate, List.length_set]; done) | (simp only [List.length_map, List.length_append, List.length_cons, List.length_nil, List.length_take, List.length_drop, cells_int, cells_bool, cells_agg, cells_sl, cells_clo, cells_und, wcs_len, List.length_replicate, List.length_set]; omega)) only [go_sem, simprocAttr, h2]
          simp only [Bool.not_false, decide_eq_true_eq] at h2
          have hs : ¬ first.sum < allN b := by omega
          simp [sumsF, hs]
    · exact absurd (by omega) h
  | succ k ih =>
    intro first hk hx hlen
    refine ctr_of_wp hmix Try.func68 m68 rfl ?_
    unfold v68
    have hc4 := hv.hc
    have hall := allN_le hv
    simp -failIfUnchanged (disch := first | omega | (simp only [List.length_map, List.length_append, List.length_cons, List.length_nil, List.length_take, List.length_drop, cells_int, cells_bool, cells_agg, cells_sl, cells_clo, cells_und, wcs_len, List.length_replicate, List.length_set]; done) | (simp only [List.length_map, List.length_append, List.length_cons, List.length_nil, List.length_take, List.length_drop, cells_int, cells_bool, cells_agg, cells_sl, cells_clo, cells_und, wcs_len, List.length_replicate, List.length_set]; omega)) only [go_sem, simprocAttr]
    refine wcond_dec (fun h => ?_) (fun h => ?_)
    · exfalso
      omega
    · simp -failIfUnchanged (disch := first | omega | (simp only [List.length_map, List.length_append, List.length_cons, List.length_nil, List.length_take, List.length_drop, cells_int, cells_bool, cells_agg, cells_sl, cells_clo, cells_und, wcs_len, List.length_replicate, List.length_set]; done) | (simp only [List.length_map, List.length_append, List.length_cons, List.length_nil, List.length_take, List.length_drop, cells_int, cells_bool, cells_agg, cells_sl, cells_clo, cells_und, wcs_len, List.length_replicate, List.length_set]; omega)) only [go_sem, simprocAttr]
      refine wcall (c104 b hv first.length (by omega) freely) ?_
      obtain ⟨ns, hns⟩ : ∃ ns, (List.range (allN b)).filter (isN b first.length freely) = ns := ⟨_, rfl⟩
      have hnums : numsL b first.length freely (allN b) = nat ns := by rw [← hns]; rfl
      rw [hnums]
      have hnsl : ns.length ≤ allN b := by rw [← hns]; exact Nat.le_trans (List.length_filter_le _ _) (by simp)
      have hnsx : ∀ x ∈ ns, x ≤ 10000 := by
        intro x hx2
        rw [← hns] at hx2
        have := List.mem_range.1 (List.mem_filter.1 hx2).1
        omega
      have hF : sumsF b freely (k + 1) first = ns.flatMap fun n => sumsF b freely k (first ++ [n]) := by rw [← hns]; rfl
      rw [hF] at hlen ⊢
      simp -failIfUnchanged (disch := first | omega | (simp only [List.length_map, List.length_append, List.length_cons, List.length_nil, List.length_take, List.length_drop, cells_int, cells_bool, cells_agg, cells_sl, cells_clo, cells_und, wcs_len, List.length_replicate, List.length_set]; done) | (simp only [List.length_map, List.length_append, List.length_cons, List.length_nil, List.length_take, List.length_drop, cells_int, cells_bool, cells_agg, cells_sl, cells_clo, cells_und, wcs_len, List.length_replicate, List.length_set]; omega)) only [go_sem, simprocAttr]
      refine wp_loop' Nat (fun i => ⟨[(1, IS (nat first)), (2, .bool freely), (3, .ptr 3 0), (8, .sl 1 (((ns.take i).flatMap fun n => sumsF b freely k (first ++ [n])).map IS) (.own 8)), (9, IS (nat ns)), (10, .int i)], [(3, ⟨[.int b.base, .int b.places, .sl 1 (b.cords.map SS) .sh, SS b.top], false⟩)], [(8, ((ns.take i).flatMap fun n => sumsF b freely k (first ++ [n])).length)], none⟩) (fun i => i ≤ ns.length) (fun i => ns.length - i) 0 (by simp) (by simp -failIfUnchanged (disch := first | omega | (simp only [List.length_map, List.length_append, List.length_cons, List.length_nil, List.length_take, List.length_drop, cells_int, cells_bool, cells_agg, cells_sl, cells_clo, cells_und, wcs_len, List.length_replicate, List.length_set]; done) | (simp only [List.length_map, List.length_append, List.length_cons, List.length_nil, List.length_take, List.length_drop, cells_int, cells_bool, cells_agg, cells_sl, cells_clo, cells_und, wcs_len, List.length_replicate, List.length_set]; omega)) only [go_sem, simprocAttr]; try simp) ?_
      intro i hi
      have hfl : (nat first).length ≤ 4 := by simp only [nat, List.length_map]; omega
      have hpre : ((ns.take (i + 1)).flatMap fun n => sumsF b freely k (first ++ [n])).length ≤ (ns.flatMap fun n => sumsF b freely k (first ++ [n])).length := by
        conv => rhs; rw [← List.take_append_drop (i + 1) ns, List.flatMap_append, List.length_append]
        omega
      simp -failIfUnchanged (disch := first | omega | (simp only [List.length_map, List.length_append, List.length_cons, List.length_nil, List.length_take, List.length_drop, cells_int, cells_bool, cells_agg, cells_sl, cells_clo, cells_und, wcs_len, List.length_replicate, List.length_set]; done) | (simp only [List.length_map, List.length_append, List.length_cons, List.length_nil, List.length_take, List.length_drop, cells_int, cells_bool, cells_agg, cells_sl, cells_clo, cells_und, wcs_len, List.length_replicate, List.length_set]; omega)) only [go_sem, simprocAttr]
      refine wcond_dec (fun h2 => ?_) (fun h2 => ?_)
      · have hlt : i < ns.length := by omega
        obtain ⟨x, hx2⟩ : ∃ x, ns[i]? = some x := ⟨ns[i], List.getElem?_eq_getElem hlt⟩
        have hxd : ns[i]?.getD default = x := by rw [hx2]; rfl
        have hxle := hnsx x (List.mem_of_getElem? hx2)
        have hstep : ((ns.take (i + 1)).flatMap fun n => sumsF b freely k (first ++ [n])) = ((ns.take i).flatMap fun n => sumsF b freely k (first ++ [n])) ++ sumsF b freely k (first ++ [x]) := by
          rw [List.take_add_one, hx2, List.flatMap_append]
          simp
        rw [hstep, List.length_append] at hpre
        have hxd2 : (nat ns)[i]?.getD default = (x : Int) := by simp [nat, hx2]
        simp -failIfUnchanged (disch := first | omega | (simp only [List.length_map, List.length_append, List.length_cons, List.length_nil, List.length_take, List.length_drop, cells_int, cells_bool, cells_agg, cells_sl, cells_clo, cells_und, wcs_len, List.length_replicate, List.length_set]; done) | (simp only [List.length_map, List.length_append, List.length_cons, List.length_nil, List.length_take, List.length_drop, cells_int, cells_bool, cells_agg, cells_sl, cells_clo, cells_und, wcs_len, List.length_replicate, List.length_set]; omega)) only [go_sem, simprocAttr, hxd2]
        have hargs : (nat first).map AV.int ++ [AV.int (x : Int)] = (nat (first ++ [x])).map AV.int := by simp [nat]
        rw [hargs]
        refine wcall (ih (first ++ [x]) (by simp; omega) (fun y hy => ?_) (by omega)) ?_
        · rcases List.mem_append.1 hy with hy | hy
          · exact hx y hy
          · simp at hy; omega
        · simp -failIfUnchanged (disch := first | omega | (simp only [List.length_map, List.length_append, List.length_cons, List.length_nil, List.length_take, List.length_drop, cells_int, cells_bool, cells_agg, cells_sl, cells_clo, cells_und, wcs_len, List.length_replicate, List.length_set]; done) | (simp only [List.length_map, List.length_append, List.length_cons, List.length_nil, List.length_take, List.length_drop, cells_int, cells_bool, cells_agg, cells_sl, cells_clo, cells_und, wcs_len, List.length_replicate, List.length_set]; omega)) only [go_sem, simprocAttr]
          refine ⟨i + 1, by omega, by dsimp only; omega, ?_⟩
          dsimp only
          rw [hstep]
          simp -failIfUnchanged (disch := first | omega | (simp only [List.length_map, List.length_append, List.length_cons, List.length_nil, List.length_take, List.length_drop, cells_int, cells_bool, cells_agg, cells_sl, cells_clo, cells_und, wcs_len, List.length_replicate, List.length_set]; done) | (simp only [List.length_map, List.length_append, List.length_cons, List.length_nil, List.length_take, List.length_drop, cells_int, cells_bool, cells_agg, cells_sl, cells_clo, cells_und, wcs_len, List.length_replicate, List.length_set]; omega)) only [go_sem, simprocAttr]
          try simp
      · simp -failIfUnchanged (disch := first | omega | (simp only [List.length_map, List.length_append, List.length_cons, List.length_nil, List.length_take, List.length_drop, cells_int, cells_bool, cells_agg, cells_sl, cells_clo, cells_und, wcs_len, List.length_replicate, List.length_set]; done) | (simp only [List.length_map, List.length_append, List.length_cons, List.length_nil, List.length_take, List.length_drop, cells_int, cells_bool, cells_agg, cells_sl, cells_clo, cells_und, wcs_len, List.length_replicate, List.length_set]; omega)) only [go_sem, simprocAttr]
        have e : i = ns.length := by omega
        rw [e, List.take_length]

end Go.Proofs.Ytkkiipjfbebipaa

/- The reference: Many. -/
set_option linter.unusedSimpArgs false
set_option linter.unusedVariables false
set_option linter.unnecessarySimpa false
namespace Go.Proofs.Ytkkiipjfbebipaa
open Go Go.V

end Go.Proofs.Ytkkiipjfbebipaa

/- The reference: known, span. -/
set_option linter.unusedSimpArgs false
set_option linter.unusedVariables false
set_option linter.unnecessarySimpa false
namespace Go.Proofs.Ytkkiipjfbebipaa
open Go Go.V

abbrev allS (b : Bk) : List (List Int) := sumsF b false b.cords.length []

def spanL (l : List Int) (m : Nat) : Sp := (l.take m).foldl (fun s x => ⟨min s.lo x, max s.hi x⟩) ⟨l[0]?.getD default, l[0]?.getD default⟩

theorem ag42 : aggOf Try.prog 42 = some true := by kernel_rfl
theorem sz42 : szOf Try.prog 42 = some 2 := by kernel_rfl

attribute [go_sem] ag42 sz42

end Go.Proofs.Ytkkiipjfbebipaa

/- The reference's lists as lists of naturals. -/
set_option linter.unusedSimpArgs false
set_option linter.unusedVariables false
set_option linter.unnecessarySimpa false
namespace Go.Proofs.Ytkkiipjfbebipaa
open Go Go.V

def sumsN (b : Bk) (freely : Bool) : Nat → List Nat → List (List Nat)
  | 0, first => if first.sum < allN b && (freely || fitsL b.top (tieN b.base.toNat b.places.toNat first.sum)) then [first ++ [first.sum]] else []
  | k + 1, first => ((List.range (allN b)).filter (isN b first.length freely)).flatMap fun n => sumsN b freely k (first ++ [n])

theorem sumsF_eq (b : Bk) (freely : Bool) : ∀ (k : Nat) (first : List Nat), sumsF b freely k first = (sumsN b freely k first).map nat
  | 0, first => by
    unfold sumsF sumsN
    split <;> rfl
  | k + 1, first => by
    unfold sumsF sumsN
    rw [List.map_flatMap]
    congr 1
    funext n
    exact sumsF_eq b freely k (first ++ [n])

/-- What is in the lists: a number for each cord and the sum, all of them small. -/
theorem sumsN_mem (b : Bk) (freely : Bool) : ∀ (k : Nat) (first l : List Nat), (∀ x ∈ first, x < allN b) → l ∈ sumsN b freely k first → l.length = first.length + k + 1 ∧ ∀ x ∈ l, x < allN b
  | 0, first, l, hf, hl => by
    unfold sumsN at hl
    split at hl
    · rename_i h
      simp only [Bool.and_eq_true, decide_eq_true_eq] at h
      simp only [List.mem_singleton] at hl
      subst hl
      refine ⟨by simp, fun x hx => ?_⟩
      rcases List.mem_append.1 hx with hx | hx
      · exact hf x hx
      · simp at hx; subst hx; exact h.1
    · simp at hl
  | k + 1, first, l, hf, hl => by
    unfold sumsN at hl
    obtain ⟨n, hn, hl⟩ := List.mem_flatMap.1 hl
    have hn2 : n < allN b := List.mem_range.1 (List.mem_filter.1 hn).1
    have := sumsN_mem b freely k (first ++ [n]) l (fun x hx => by
      rcases List.mem_append.1 hx with hx | hx
      · exact hf x hx
      · simp at hx; subst hx; exact hn2) hl
    refine ⟨by rw [this.1]; simp; omega, this.2⟩

end Go.Proofs.Ytkkiipjfbebipaa

/- The reference: Sure. -/
set_option linter.unusedSimpArgs false
set_option linter.unusedVariables false
set_option linter.unnecessarySimpa false
namespace Go.Proofs.Ytkkiipjfbebipaa
open Go Go.V

abbrev allNs (b : Bk) : List (List Nat) := sumsN b false b.cords.length []

theorem allS_eq (b : Bk) : allS b = (allNs b).map nat := sumsF_eq b false _ _

theorem allNs_mem {b : Bk} {l : List Nat} (h : l ∈ allNs b) : l.length = b.cords.length + 1 ∧ ∀ x ∈ l, x < allN b := by
  have := sumsN_mem b false b.cords.length [] l (by simp) h
  simpa using this

/-- The numbers of a cord. -/
def colS (b : Bk) (c : Nat) (m : Nat) : List Int := ((allNs b).take m).map fun l => ((l[c]?.getD default : Nat) : Int)

theorem nat_get (l : List Nat) (i : Nat) : (nat l)[i]?.getD default = ((l[i]?.getD default : Nat) : Int) := by
  simp only [nat, List.getElem?_map]
  cases l[i]? <;> rfl

end Go.Proofs.Ytkkiipjfbebipaa

/- The reference: Cluster. -/
set_option linter.unusedSimpArgs false
set_option linter.unusedVariables false
set_option linter.unnecessarySimpa false
namespace Go.Proofs.Ytkkiipjfbebipaa
open Go Go.V

end Go.Proofs.Ytkkiipjfbebipaa

/- Digits of a cluster: iterators. -/
set_option linter.unusedSimpArgs false
set_option linter.unusedVariables false
set_option linter.unnecessarySimpa false
namespace Go.Proofs.Ytkkiipjfbebipaa
open Go Go.V

abbrev capsD (b : Bk) (m m2 : AV) (cord place : Nat) : List AV :=
  [.ref 6 [LM b m m2] 0 0, .ref 1 [.agg [.int cord]] 0 0, .ref 1 [.agg [.int place]] 0 0]

theorem c67 (b : Bk) (g g2 : Nat) (caps caps2 : List AV) (cord place : Nat) : Ctr Try.prog 67 [LM b (.clo g [] caps) (.clo g2 [] caps2), .int cord, .int place] (.clo 102 [] (capsD b (.clo g [] caps) (.clo g2 [] caps2) cord place)) := by
  refine ctr_of_wp hmix Try.func67 m67 rfl ?_
  unfold v67
  simp -failIfUnchanged (disch := first | omega | (simp [wcs_len] <;> omega) | fail) only [go_sem, simprocAttr]

def manyD (b : Bk) (may : Nat → Nat → Nat → Bool) (carry : Nat → Nat → Bool) (cord place d : Nat) : Int := (solveL b (onlyF may cord place d) carry).r

def spanD (b : Bk) (may : Nat → Nat → Nat → Bool) (carry : Nat → Nat → Bool) (cord place : Nat) (m : Nat) : Sp :=
  (List.range m).foldl (fun s d => if 0 < manyD b may carry cord place d then ⟨min s.lo d, max s.hi d⟩ else s) ⟨b.base, 0⟩

theorem ag42b : aggOf Try.prog 42 = some true := by kernel_rfl
theorem sz42b : szOf Try.prog 42 = some 2 := by kernel_rfl

attribute [go_sem] ag42b sz42b

theorem c80 (b : Bk) (hv : Val b) (g g2 : Nat) (caps caps2 : List AV) (may : Nat → Nat → Nat → Bool) (carry : Nat → Nat → Bool)
    (hmay : ∀ c p d : Nat, c ≤ b.cords.length → p < b.places.toNat → d < b.base.toNat → Ctr Try.prog g ([.int c, .int p, .int d] ++ caps) (.bool (may c p d)))
    (hcarry : ∀ p n : Nat, p < b.places.toNat → n ≤ 50 → Ctr Try.prog g2 ([.int p, .int n] ++ caps2) (.bool (carry p n))) (cord place : Nat) :
    Ctr Try.prog 80 [LM b (.clo g [] caps) (.clo g2 [] caps2), .int cord, .int place] (SP (spanD b may carry cord place b.base.toNat)) := by
  refine ctr_of_wp hmix Try.func80 m80 rfl ?_
  unfold v80
  simp -failIfUnchanged (disch := first | omega | (simp [wcs_len] <;> omega) | fail) only [go_sem, simprocAttr]
  refine wcall (c67 b g g2 caps caps2 cord place) ?_
  simp -failIfUnchanged (disch := first | omega | (simp [wcs_len] <;> omega) | fail) only [go_sem, simprocAttr]
  refine wp_range' ?_
  simp -failIfUnchanged (disch := first | omega | (simp [wcs_len] <;> omega) | fail) only [go_sem, simprocAttr]
  refine wrange fun l T hT => ?_
  refine csem_of_wp hmix Try.func102 m102 rfl rfl ?_
  unfold v102
  simp -failIfUnchanged (disch := first | omega | (simp [wcs_len] <;> omega) | fail) only [go_sem, simprocAttr]
  obtain ⟨hb1, hb2⟩ := hv.hb
  have hB : ((b.base.toNat : Nat) : Int) = b.base := by omega
  refine wp_loopX (Nat × Sp) (fun x => ⟨[(0, .yld l), (1, .ref 6 [LM b (.clo g [] caps) (.clo g2 [] caps2)] 0 0), (2, .ref 1 [.agg [.int cord]] 0 0), (3, .ref 1 [.agg [.int place]] 0 0), (9, .int b.base), (10, .int x.1)], [(7, ⟨[.int x.2.lo, .int x.2.hi], false⟩), (6, ⟨[.int 0, .int 0], false⟩)], [], none⟩)
    (fun x => x.1 ≤ b.base.toNat ∧ x.2 = spanD b may carry cord place x.1) (fun x => b.base.toNat - x.1) (0, spanD b may carry cord place 0) (by simp) (by simp -failIfUnchanged (disch := first | omega | (simp [wcs_len] <;> omega) | fail) only [go_sem, simprocAttr]; try simp [spanD]) (fun x => by simp -failIfUnchanged (disch := first | omega | (simp [wcs_len] <;> omega) | fail) only [go_sem, simprocAttr]) ?_
  rintro ⟨d, s⟩ ⟨hd, hs⟩
  simp only at hd hs
  have hsucc : spanD b may carry cord place (d + 1) = if 0 < manyD b may carry cord place d then ⟨min s.lo d, max s.hi d⟩ else s := by
    rw [hs, spanD, List.range_succ, List.foldl_append]
    rfl
  simp -failIfUnchanged (disch := first | omega | (simp [wcs_len] <;> omega) | fail) only [go_sem, simprocAttr]
  refine wcond_dec (fun h => ?_) (fun h => ?_)
  · simp -failIfUnchanged (disch := first | omega | (simp [wcs_len] <;> omega) | fail) only [go_sem, simprocAttr]
    refine wcall (c74 b g g2 caps caps2 cord place d) ?_
    simp -failIfUnchanged (disch := first | omega | (simp [wcs_len] <;> omega) | fail) only [go_sem, simprocAttr]
    refine wcall (c65 b hv 108 g2 _ caps2 (onlyF may cord place d) carry (fun c p d' h1 h2 h3 => c108 g caps may cord place d c p d' (hmay c p d' h1 h2 h3)) hcarry) ?_
    simp -failIfUnchanged (disch := first | omega | (simp [wcs_len] <;> omega) | fail) only [go_sem, simprocAttr]
    refine WGd_bool (fun h1 => ?_) (fun h1 => ?_)
    · simp -failIfUnchanged (disch := first | omega | (simp [wcs_len] <;> omega) | fail) only [go_sem, simprocAttr, h1]
      refine wyield (hT _ _ _ _ _ rfl ?_)
      simp -failIfUnchanged (disch := first | omega | (simp [wcs_len] <;> omega) | fail) only [go_sem, simprocAttr, h1]
      have h1' : 0 < manyD b may carry cord place d := by simpa [manyD] using h1
      refine ⟨(d + 1, ⟨min s.lo d, max s.hi d⟩), ⟨by dsimp only; omega, by rw [hsucc, if_pos h1']⟩, by dsimp only; omega, ?_⟩
      simp -failIfUnchanged (disch := first | omega | (simp [wcs_len] <;> omega) | fail) only [go_sem, simprocAttr]
      try simp
    · simp -failIfUnchanged (disch := first | omega | (simp [wcs_len] <;> omega) | fail) only [go_sem, simprocAttr, h1]
      have h1' : ¬ 0 < manyD b may carry cord place d := by simpa [manyD] using h1
      refine ⟨(d + 1, s), ⟨by dsimp only; omega, by rw [hsucc, if_neg h1']⟩, by dsimp only; omega, ?_⟩
      simp -failIfUnchanged (disch := first | omega | (simp [wcs_len] <;> omega) | fail) only [go_sem, simprocAttr]
      try simp
  · simp -failIfUnchanged (disch := first | omega | (simp [wcs_len] <;> omega) | fail) only [go_sem, simprocAttr]
    have ed : d = b.base.toNat := by omega
    rw [hs, ed]

end Go.Proofs.Ytkkiipjfbebipaa

/- known on all its ways; Cluster, Sure, Carry. -/
set_option linter.unusedSimpArgs false
set_option linter.unusedVariables false
set_option linter.unnecessarySimpa false
namespace Go.Proofs.Ytkkiipjfbebipaa
open Go Go.V

abbrev LM0 : AV := .agg [.int 0, .int 0, .sl 1 [] .sh, .sl 2 [] .sh, .und, .und]

/-- What known returns. -/
def knownR (b : Bk) (is : Bool) : AV :=
  if checkB b then
    if is then
      if (solveL b yes3 yes2).r = 0 then .tup [LM0, .int 3] else .tup [LM b (.clo 100 [] []) (.clo 101 [] []), .int 0]
    else .tup [LM0, .int 1]
  else .tup [LM0, .int 110]

theorem c77g (b : Bk) (hs : Small b) (is : Bool) : Ctr Try.prog 77 [KB b, .bool is] (knownR b is) := by
  refine ctr_of_wp hmix Try.func77 m77 rfl ?_
  unfold v77 knownR
  simp -failIfUnchanged (disch := first | omega | (simp [wcs_len] <;> omega) | fail) only [go_sem, simprocAttr]
  refine wcall (c85 b hs is) ?_
  cases hc : checkB b with
  | false => simp -failIfUnchanged (disch := first | omega | (simp [wcs_len] <;> omega) | fail) only [go_sem, simprocAttr]
  | true =>
    cases is with
    | false => simp -failIfUnchanged (disch := first | omega | (simp [wcs_len] <;> omega) | fail) only [go_sem, simprocAttr]
    | true =>
      simp -failIfUnchanged (disch := first | omega | (simp [wcs_len] <;> omega) | fail) only [go_sem, simprocAttr]
      refine wcall (c64 b) ?_
      simp -failIfUnchanged (disch := first | omega | (simp [wcs_len] <;> omega) | fail) only [go_sem, simprocAttr]
      refine wcall (c65 b (val_of_check hc) 100 101 [] [] yes3 yes2 (fun c p d _ _ _ => c100 c p d) (fun p n _ _ => c101 p n)) ?_
      simp -failIfUnchanged (disch := first | omega | (simp [wcs_len] <;> omega) | fail) only [go_sem, simprocAttr]
      refine wcond_dec (fun h => ?_) (fun h => ?_)
      · simp -failIfUnchanged (disch := first | omega | (simp [wcs_len] <;> omega) | fail) only [go_sem, simprocAttr, h]
      · simp -failIfUnchanged (disch := first | omega | (simp [wcs_len] <;> omega) | fail) only [go_sem, simprocAttr, h]

/-- The answer of a function that asks for a right reading. -/
def ansR (b : Bk) (is : Bool) (z v : AV) : AV :=
  if checkB b then
    if is then
      if (solveL b yes3 yes2).r = 0 then .tup [z, .int 3] else .tup [v, .int 0]
    else .tup [z, .int 1]
  else .tup [z, .int 110]

end Go.Proofs.Ytkkiipjfbebipaa

/- Sure. -/
set_option linter.unusedSimpArgs false
set_option linter.unusedVariables false
set_option linter.unnecessarySimpa false
namespace Go.Proofs.Ytkkiipjfbebipaa
open Go Go.V

theorem c82 (s : Sp) : Ctr Try.prog 82 [SP s] (.int s.lo) := by
  refine ctr_of_wp hmix Try.func82 m82 rfl ?_
  unfold v82
  simp -failIfUnchanged (disch := first | omega | (simp [wcs_len] <;> omega) | fail) only [go_sem, simprocAttr]

theorem c83 (s : Sp) : Ctr Try.prog 83 [SP s] (.int s.hi) := by
  refine ctr_of_wp hmix Try.func83 m83 rfl ?_
  unfold v83
  simp -failIfUnchanged (disch := first | omega | (simp [wcs_len] <;> omega) | fail) only [go_sem, simprocAttr]

theorem spanD_bound (b : Bk) (hb : 2 ≤ b.base) (may : Nat → Nat → Nat → Bool) (carry : Nat → Nat → Bool) (cord place : Nat) : ∀ m, m ≤ b.base.toNat →
    0 ≤ (spanD b may carry cord place m).lo ∧ (spanD b may carry cord place m).lo ≤ b.base ∧ 0 ≤ (spanD b may carry cord place m).hi ∧ (spanD b may carry cord place m).hi ≤ b.base
  | 0, _ => by simp [spanD]; omega
  | m + 1, h => by
    have ih := spanD_bound b hb may carry cord place m (by omega)
    have e : spanD b may carry cord place (m + 1) = if 0 < manyD b may carry cord place m then ⟨min (spanD b may carry cord place m).lo m, max (spanD b may carry cord place m).hi m⟩ else spanD b may carry cord place m := by
      unfold spanD
      rw [List.range_succ, List.foldl_append]
      rfl
    rw [e]
    split
    · dsimp only; omega
    · exact ih

/-- An end of what a cord has. -/
def endF (b : Bk) (carry : Nat → Nat → Bool) (cord : Nat) (sel : Sp → Int) : Nat → Nat → (Nat → Nat → Nat → Bool) → Int → Int
  | _, 0, _, n => n
  | p, k + 1, may, n => endF b carry cord sel (p + 1) k (onlyF may cord p (sel (spanD b may carry cord p b.base.toNat)).toNat) (numL b.base [n, sel (spanD b may carry cord p b.base.toNat)])

theorem c79 (b : Bk) (hv : Val b) (g g2 : Nat) (caps caps2 : List AV) (may : Nat → Nat → Nat → Bool) (carry : Nat → Nat → Bool)
    (hmay : ∀ c p d : Nat, c ≤ b.cords.length → p < b.places.toNat → d < b.base.toNat → Ctr Try.prog g ([.int c, .int p, .int d] ++ caps) (.bool (may c p d)))
    (hcarry : ∀ p n : Nat, p < b.places.toNat → n ≤ 50 → Ctr Try.prog g2 ([.int p, .int n] ++ caps2) (.bool (carry p n))) (cord : Nat)
    (gs : Nat) (sel : Sp → Int) (hsel : ∀ s : Sp, Ctr Try.prog gs [SP s] (.int (sel s))) (hsel2 : ∀ s : Sp, sel s = s.lo ∨ sel s = s.hi) :
    Ctr Try.prog 79 [.clo gs [] [], .ref 6 [LM b (.clo g [] caps) (.clo g2 [] caps2)] 0 0, .ref 4 [KB b] 0 0, .ref 1 [.agg [.int cord]] 0 0] (.int (endF b carry cord sel 0 b.places.toNat may 0)) := by
  refine ctr_of_wp hmix Try.func79 m79 rfl ?_
  unfold v79
  obtain ⟨hb1, hb2⟩ := hv.hb
  obtain ⟨hp1, hp2⟩ := hv.hp
  obtain ⟨PL, hPL⟩ : ∃ p : Nat, b.places = p := ⟨b.places.toNat, by omega⟩
  have hPn : b.places.toNat = PL := by omega
  simp -failIfUnchanged (disch := first | omega | (simp [wcs_len] <;> omega) | fail) only [go_sem, simprocAttr]
  refine wp_loop' (Nat × Nat × List AV × (Nat → Nat → Nat → Bool) × Int) (fun x => ⟨[(0, .clo gs [] []), (2, .ref 4 [KB b] 0 0), (3, .ref 1 [.agg [.int cord]] 0 0), (6, .int x.2.2.2.2), (7, .ptr 7 0), (12, .int b.places), (13, .int x.1)],
    [(7, ⟨[.int b.base, .int b.places, .sl 1 (b.cords.map SS) .sh, SS b.top, .clo x.2.1 [] x.2.2.1, .clo g2 [] caps2], false⟩)], [], none⟩)
    (fun x => x.1 ≤ PL ∧ (∀ c p d : Nat, c ≤ b.cords.length → p < b.places.toNat → d < b.base.toNat → Ctr Try.prog x.2.1 ([.int c, .int p, .int d] ++ x.2.2.1) (.bool (x.2.2.2.1 c p d))) ∧ endF b carry cord sel x.1 (PL - x.1) x.2.2.2.1 x.2.2.2.2 = endF b carry cord sel 0 PL may 0)
    (fun x => PL - x.1) (0, g, caps, may, 0) ⟨by simp, hmay, by simp⟩ (by simp -failIfUnchanged (disch := first | omega | (simp [wcs_len] <;> omega) | fail) only [go_sem, simprocAttr]; try simp) ?_
  rintro ⟨p, g', caps', may', n⟩ ⟨hp, hm, he⟩
  dsimp only at hp hm he ⊢
  simp -failIfUnchanged (disch := first | omega | (simp [wcs_len] <;> omega) | fail) only [go_sem, simprocAttr]
  refine wcond_dec (fun h => ?_) (fun h => ?_)
  · simp -failIfUnchanged (disch := first | omega | (simp [wcs_len] <;> omega) | fail) only [go_sem, simprocAttr]
    have hlt : p < PL := by omega
    refine wcall (c80 b hv g' g2 caps' caps2 may' carry hm hcarry cord p) ?_
    simp -failIfUnchanged (disch := first | omega | (simp [wcs_len] <;> omega) | fail) only [go_sem, simprocAttr]
    refine wcall (hsel _) ?_
    simp -failIfUnchanged (disch := first | omega | (simp [wcs_len] <;> omega) | fail) only [go_sem, simprocAttr]
    have hbd := spanD_bound b hb1 may' carry cord p b.base.toNat (Nat.le_refl _)
    obtain ⟨d, hd⟩ : ∃ d : Nat, sel (spanD b may' carry cord p b.base.toNat) = d := ⟨(sel (spanD b may' carry cord p b.base.toNat)).toNat, by
      rcases hsel2 (spanD b may' carry cord p b.base.toNat) with e | e <;> omega⟩
    rw [hd]
    refine wcall (c81 b.base [n, d] (by simp)) ?_
    simp -failIfUnchanged (disch := first | omega | (simp [wcs_len] <;> omega) | fail) only [go_sem, simprocAttr]
    refine wcall (c74 b g' g2 caps' caps2 cord p d) ?_
    simp -failIfUnchanged (disch := first | omega | (simp [wcs_len] <;> omega) | fail) only [go_sem, simprocAttr]
    refine ⟨(p + 1, 108, capsO g' caps' cord p d, onlyF may' cord p d, numL b.base [n, d]), ⟨by dsimp only; omega, fun c q d' h1 h2 h3 => c108 g' caps' may' cord p d c q d' (hm c q d' h1 h2 h3), ?_⟩, by dsimp only; omega, ?_⟩
    · dsimp only
      rw [← he, show PL - p = (PL - (p + 1)) + 1 by omega]
      simp only [endF, hd, Int.toNat_natCast]
    · simp -failIfUnchanged (disch := first | omega | (simp [wcs_len] <;> omega) | fail) only [go_sem, simprocAttr]
      simp
  · simp -failIfUnchanged (disch := first | omega | (simp [wcs_len] <;> omega) | fail) only [go_sem, simprocAttr]
    have e : p = PL := by omega
    rw [hPn, ← he, e, Nat.sub_self]
    rfl

/-- Between what a cord has. -/
def sureD (b : Bk) (cord : Nat) : Sp := ⟨endF b yes2 cord (fun s => s.lo) 0 b.places.toNat yes3 0, endF b yes2 cord (fun s => s.hi) 0 b.places.toNat yes3 0⟩

theorem c35 (b : Bk) (hs : Small b) (c : Int) : Ctr Try.prog 35 [KB b, .int c]
    (ansR b (within c 0 b.cords.length) (SP ⟨0, 0⟩) (SP (sureD b c.toNat))) := by
  refine ctr_of_wp hmix Try.func35 m35 rfl ?_
  unfold v35 ansR
  simp -failIfUnchanged (disch := first | omega | (simp [wcs_len] <;> omega) | fail) only [go_sem, simprocAttr]
  refine wcall (c78 b c) ?_
  simp -failIfUnchanged (disch := first | omega | (simp [wcs_len] <;> omega) | fail) only [go_sem, simprocAttr]
  refine wcall (c77g b hs _) ?_
  unfold knownR
  cases hc : checkB b with
  | false => simp -failIfUnchanged (disch := first | omega | (simp [wcs_len] <;> omega) | fail) only [go_sem, simprocAttr]
  | true =>
    cases h1 : within c 0 b.cords.length with
    | false => simp -failIfUnchanged (disch := first | omega | (simp [wcs_len] <;> omega) | fail) only [go_sem, simprocAttr]
    | true =>
      have hv := val_of_check hc
      have h1' : 0 ≤ c ∧ c ≤ b.cords.length := by simpa [within] using h1
      by_cases hz : (solveL b yes3 yes2).r = 0
      · simp -failIfUnchanged (disch := first | omega | (simp [wcs_len] <;> omega) | fail) only [go_sem, simprocAttr, hz]
      · simp -failIfUnchanged (disch := first | omega | (simp [wcs_len] <;> omega) | fail) only [go_sem, simprocAttr, hz]
        obtain ⟨cn, rfl⟩ : ∃ m : Nat, c = m := ⟨c.toNat, by omega⟩
        refine wcall (c79 b hv 100 101 [] [] yes3 yes2 (fun c p d _ _ _ => c100 c p d) (fun p n _ _ => c101 p n) cn 82 (fun s => s.lo) c82 (fun s => .inl rfl)) ?_
        simp -failIfUnchanged (disch := first | omega | (simp [wcs_len] <;> omega) | fail) only [go_sem, simprocAttr]
        refine wcall (c79 b hv 100 101 [] [] yes3 yes2 (fun c p d _ _ _ => c100 c p d) (fun p n _ _ => c101 p n) cn 83 (fun s => s.hi) c83 (fun s => .inr rfl)) ?_
        simp -failIfUnchanged (disch := first | omega | (simp [wcs_len] <;> omega) | fail) only [go_sem, simprocAttr]
        simp [sureD]

end Go.Proofs.Ytkkiipjfbebipaa

/- Carry. -/
set_option linter.unusedSimpArgs false
set_option linter.unusedVariables false
set_option linter.unnecessarySimpa false
namespace Go.Proofs.Ytkkiipjfbebipaa
open Go Go.V

def carryF (place n p m : Nat) : Bool := decide (¬ p = place) || decide (m = n)

abbrev capsC (place n : Nat) : List AV := [.ref 1 [.agg [.int place]] 0 0, .ref 1 [.agg [.int n]] 0 0]

theorem c89 (place n p m : Nat) : Ctr Try.prog 89 ([.int p, .int m] ++ capsC place n) (.bool (carryF place n p m)) := by
  refine ctr_of_wp hmix Try.func89 m89 rfl ?_
  unfold v89
  simp -failIfUnchanged (disch := first | omega | (simp [wcs_len] <;> omega) | fail) only [go_sem, simprocAttr]
  refine WGd_bool (fun h => ?_) (fun h => ?_)
  · simp -failIfUnchanged (disch := first | omega | (simp [wcs_len] <;> omega) | fail) only [go_sem, simprocAttr, h]
    simp only [Bool.not_eq_false', decide_eq_false_iff_not, Decidable.not_not] at h
    have e : p = place := by first | omega | (simp at h; omega)
    have e2 : ((m : Int) = (n : Int)) ↔ m = n := by omega
    simp [carryF, e, e2]
  · simp -failIfUnchanged (disch := first | omega | (simp [wcs_len] <;> omega) | fail) only [go_sem, simprocAttr, h]
    have e : ¬ p = place := by first | omega | (simp at h; omega)
    simp [carryF, e]

def carryD (b : Bk) (place : Nat) (k : Nat) : Sp :=
  (List.range k).foldl (fun s n => if 0 < (solveL b yes3 (carryF place n)).r then ⟨min s.lo n, n⟩ else s) ⟨51, 0⟩

theorem c47 (b : Bk) (hs : Small b) (p : Int) : Ctr Try.prog 47 [KB b, .int p]
    (ansR b (within p 0 (w64 (b.places - 1))) (SP ⟨0, 0⟩) (SP (carryD b p.toNat 51))) := by
  refine ctr_of_wp hmix Try.func47 m47 rfl ?_
  unfold v47 ansR
  simp -failIfUnchanged (disch := first | omega | (simp [wcs_len] <;> omega) | fail) only [go_sem, simprocAttr]
  refine wcall (c84 b p) ?_
  simp -failIfUnchanged (disch := first | omega | (simp [wcs_len] <;> omega) | fail) only [go_sem, simprocAttr]
  refine wcall (c77g b hs _) ?_
  unfold knownR
  cases hc : checkB b with
  | false => simp -failIfUnchanged (disch := first | omega | (simp [wcs_len] <;> omega) | fail) only [go_sem, simprocAttr]
  | true =>
    cases h1 : within p 0 (w64 (b.places - 1)) with
    | false => simp -failIfUnchanged (disch := first | omega | (simp [wcs_len] <;> omega) | fail) only [go_sem, simprocAttr]
    | true =>
      have hv := val_of_check hc
      have hpl := hv.hp
      rw [w64_id (by omega)] at h1
      have h1' : 0 ≤ p ∧ p ≤ b.places - 1 := by simpa [within] using h1
      by_cases hz : (solveL b yes3 yes2).r = 0
      · simp -failIfUnchanged (disch := first | omega | (simp [wcs_len] <;> omega) | fail) only [go_sem, simprocAttr, hz]
      · simp -failIfUnchanged (disch := first | omega | (simp [wcs_len] <;> omega) | fail) only [go_sem, simprocAttr, hz]
        obtain ⟨q, rfl⟩ : ∃ m : Nat, p = m := ⟨p.toNat, by omega⟩
        refine wp_loopF [3] (Nat × Sp × AV) (fun x => ⟨[(3, .ptr 3 0), (4, .ptr 4 0), (6, .ptr 6 0), (8, .ptr 8 0), (23, .int x.1)],
          [(3, ⟨[.int q], true⟩), (4, ⟨[.int 0, .int 0], false⟩), (6, ⟨[.int b.base, .int b.places, .sl 1 (b.cords.map SS) .sh, SS b.top, .clo 100 [] [], x.2.2], false⟩), (8, ⟨[.int x.2.1.lo, .int x.2.1.hi], false⟩)], [], none⟩)
          (fun x => x.1 ≤ 51 ∧ x.2.1 = carryD b q x.1 ∧ ∃ g caps, x.2.2 = .clo g [] caps) (fun x => 51 - x.1) (0, carryD b q 0, .clo 101 [] []) ⟨by simp, rfl, _, _, rfl⟩ (by simp -failIfUnchanged (disch := first | omega | (simp [wcs_len] <;> omega) | fail) only [go_sem, simprocAttr]; try simp [carryD]) ?_
        rintro ⟨n, s, cl⟩ ⟨hn, hs', g, caps, hcl⟩
        dsimp only at hn hs' hcl ⊢
        subst hcl
        have hsucc : carryD b q (n + 1) = if 0 < (solveL b yes3 (carryF q n)).r then ⟨min s.lo n, n⟩ else s := by
          rw [hs', carryD, List.range_succ, List.foldl_append]
          rfl
        simp -failIfUnchanged (disch := first | omega | (simp [wcs_len] <;> omega) | fail) only [go_sem, simprocAttr]
        refine wcond_dec (fun h => ?_) (fun h => ?_)
        · simp -failIfUnchanged (disch := first | omega | (simp [wcs_len] <;> omega) | fail) only [go_sem, simprocAttr]
          refine wcall (c65 b hv 100 89 [] (capsC q n) yes3 (carryF q n) (fun c p d _ _ _ => c100 c p d) (fun p m _ _ => c89 q n p m)) ?_
          simp -failIfUnchanged (disch := first | omega | (simp [wcs_len] <;> omega) | fail) only [go_sem, simprocAttr]
          refine wcond_dec (fun h2 => ?_) (fun h2 => ?_)
          · simp -failIfUnchanged (disch := first | omega | (simp [wcs_len] <;> omega) | fail) only [go_sem, simprocAttr]
            refine ⟨(n + 1, ⟨min s.lo n, n⟩, .clo 89 [] (capsC q n)), ⟨by dsimp only; omega, by rw [hsucc, if_pos h2], _, _, rfl⟩, by dsimp only; omega, ?_⟩
            simp -failIfUnchanged (disch := first | omega | (simp [wcs_len] <;> omega) | fail) only [go_sem, simprocAttr]
            try simp
          · simp -failIfUnchanged (disch := first | omega | (simp [wcs_len] <;> omega) | fail) only [go_sem, simprocAttr]
            refine ⟨(n + 1, s, .clo 89 [] (capsC q n)), ⟨by dsimp only; omega, by rw [hsucc, if_neg h2], _, _, rfl⟩, by dsimp only; omega, ?_⟩
            simp -failIfUnchanged (disch := first | omega | (simp [wcs_len] <;> omega) | fail) only [go_sem, simprocAttr]
            try simp
        · simp -failIfUnchanged (disch := first | omega | (simp [wcs_len] <;> omega) | fail) only [go_sem, simprocAttr]
          have e : n = 51 := by omega
          rw [hs', e]

end Go.Proofs.Ytkkiipjfbebipaa

/- Ask. -/
set_option linter.unusedSimpArgs false
set_option linter.unusedVariables false
set_option linter.unnecessarySimpa false
namespace Go.Proofs.Ytkkiipjfbebipaa
open Go Go.V

def worstD (b : Bk) (c p k : Nat) : Int :=
  (List.range k).foldl (fun w d => if 0 < manyD b yes3 yes2 c p d then max w (manyD b yes3 yes2 c p d) else w) 0

structure As3 where
  c : Int
  p : Int
  w : Int

def askStep (b : Bk) (c : Nat) (s : As3) (p : Nat) : As3 :=
  if s.w < 0 ∨ worstD b c p b.base.toNat < s.w then ⟨c, p, worstD b c p b.base.toNat⟩ else s

def askRow (b : Bk) (c : Nat) (s : As3) (k : Nat) : As3 := (List.range k).foldl (askStep b c) s
def askD (b : Bk) (k : Nat) : As3 := (List.range k).foldl (fun s c => askRow b c s b.places.toNat) ⟨0, 0, -1⟩

theorem askRow_succ (b : Bk) (c : Nat) (s : As3) (k : Nat) : askRow b c s (k + 1) = askStep b c (askRow b c s k) k := by
  unfold askRow
  rw [List.range_succ, List.foldl_append]
  rfl

theorem askD_succ (b : Bk) (k : Nat) : askD b (k + 1) = askRow b k (askD b k) b.places.toNat := by
  unfold askD
  rw [List.range_succ, List.foldl_append]
  rfl

theorem c19 (b : Bk) (hs : Small b) : Ctr Try.prog 19 [KB b]
    (if checkB b then
      if (solveL b yes3 yes2).r < 2 then .tup [.int 0, .int 0, .int 3] else .tup [.int (askD b (b.cords.length + 1)).c, .int (askD b (b.cords.length + 1)).p, .int 0]
    else .tup [.int 0, .int 0, .int 110]) := by
  refine ctr_of_wp hmix Try.func19 m19 rfl ?_
  unfold v19
  simp -failIfUnchanged (disch := first | omega | (simp [wcs_len] <;> omega) | fail) only [go_sem, simprocAttr]
  refine wcall (c49 b hs) ?_
  cases hc : checkB b with
  | false => simp -failIfUnchanged (disch := first | omega | (simp [wcs_len] <;> omega) | fail) only [go_sem, simprocAttr]
  | true =>
    have hv := val_of_check hc
    obtain ⟨hb1, hb2⟩ := hv.hb
    obtain ⟨hp1, hp2⟩ := hv.hp
    have hc4 := hv.hc
    obtain ⟨PL, hPL⟩ : ∃ p : Nat, b.places = p := ⟨b.places.toNat, by omega⟩
    have hPn : b.places.toNat = PL := by omega
    simp -failIfUnchanged (disch := first | omega | (simp [wcs_len] <;> omega) | fail) only [go_sem, simprocAttr]
    refine wcall (c64 b) ?_
    simp -failIfUnchanged (disch := first | omega | (simp [wcs_len] <;> omega) | fail) only [go_sem, simprocAttr]
    refine wcall (c65 b hv 100 101 [] [] yes3 yes2 (fun c p d _ _ _ => c100 c p d) (fun p n _ _ => c101 p n)) ?_
    simp -failIfUnchanged (disch := first | omega | (simp [wcs_len] <;> omega) | fail) only [go_sem, simprocAttr]
    refine wcond_dec (fun h => ?_) (fun h => ?_)
    · simp -failIfUnchanged (disch := first | omega | (simp [wcs_len] <;> omega) | fail) only [go_sem, simprocAttr, h]
    · simp -failIfUnchanged (disch := first | omega | (simp [wcs_len] <;> omega) | fail) only [go_sem, simprocAttr, h]
      refine wcall (c66 b hs) ?_
      have hal : (allC b).length = b.cords.length + 1 := by simp [allC]
      simp -failIfUnchanged (disch := first | omega | (simp [wcs_len] <;> omega) | fail) only [go_sem, simprocAttr]
      rw [hal]
      refine wp_loop' (Nat × As3) (fun x => ⟨[(1, .ptr 1 0), (2, .int x.2.c), (3, .int x.2.p), (6, .ptr 6 0), (7, .int x.2.w), (25, .int ((b.cords.length + 1 : Nat) : Int)), (26, .int x.1)],
        [(6, ⟨[.int b.base, .int b.places, .sl 1 (b.cords.map SS) .sh, SS b.top, .clo 100 [] [], .clo 101 [] []], false⟩), (1, ⟨[.int b.base, .int b.places, .sl 1 (b.cords.map SS) .sh, SS b.top], false⟩)], [], none⟩)
        (fun x => x.1 ≤ b.cords.length + 1 ∧ x.2 = askD b x.1) (fun x => b.cords.length + 1 - x.1) (0, askD b 0) ⟨by simp, rfl⟩ (by simp -failIfUnchanged (disch := first | omega | (simp [wcs_len] <;> omega) | fail) only [go_sem, simprocAttr]; try simp [askD]) ?_
      rintro ⟨c, s0⟩ ⟨hcl, hs0⟩
      dsimp only at hcl hs0 ⊢
      simp -failIfUnchanged (disch := first | omega | (simp [wcs_len] <;> omega) | fail) only [go_sem, simprocAttr]
      refine wcond_dec (fun h1 => ?_) (fun h1 => ?_)
      · simp -failIfUnchanged (disch := first | omega | (simp [wcs_len] <;> omega) | fail) only [go_sem, simprocAttr]
        refine wp_loop' (Nat × As3) (fun x => ⟨[(1, .ptr 1 0), (2, .int x.2.c), (3, .int x.2.p), (6, .ptr 6 0), (7, .int x.2.w), (8, .int c), (25, .int ((b.cords.length + 1 : Nat) : Int)), (26, .int c), (30, .int b.places), (31, .int x.1)],
          [(6, ⟨[.int b.base, .int b.places, .sl 1 (b.cords.map SS) .sh, SS b.top, .clo 100 [] [], .clo 101 [] []], false⟩), (1, ⟨[.int b.base, .int b.places, .sl 1 (b.cords.map SS) .sh, SS b.top], false⟩)], [], none⟩)
          (fun x => x.1 ≤ PL ∧ x.2 = askRow b c s0 x.1) (fun x => PL - x.1) (0, askRow b c s0 0) ⟨by simp, rfl⟩ (by simp -failIfUnchanged (disch := first | omega | (simp [wcs_len] <;> omega) | fail) only [go_sem, simprocAttr]; try simp [askRow]) ?_
        rintro ⟨p, s⟩ ⟨hpl, hss⟩
        dsimp only at hpl hss ⊢
        simp -failIfUnchanged (disch := first | omega | (simp [wcs_len] <;> omega) | fail) only [go_sem, simprocAttr]
        refine wcond_dec (fun h2 => ?_) (fun h2 => ?_)
        · simp -failIfUnchanged (disch := first | omega | (simp [wcs_len] <;> omega) | fail) only [go_sem, simprocAttr]
          refine wcall (c67 b 100 101 [] [] c p) ?_
          simp -failIfUnchanged (disch := first | omega | (simp [wcs_len] <;> omega) | fail) only [go_sem, simprocAttr]
          refine wp_range' ?_
          simp -failIfUnchanged (disch := first | omega | (simp [wcs_len] <;> omega) | fail) only [go_sem, simprocAttr]
          refine wrange fun l T hT => ?_
          refine csem_of_wp hmix Try.func102 m102 rfl rfl ?_
          unfold v102
          simp -failIfUnchanged (disch := first | omega | (simp [wcs_len] <;> omega) | fail) only [go_sem, simprocAttr]
          refine wp_loopX (Nat × Int) (fun x => ⟨[(0, .yld l), (1, .ref 6 [LM b (.clo 100 [] []) (.clo 101 [] [])] 0 0), (2, .ref 1 [.agg [.int c]] 0 0), (3, .ref 1 [.agg [.int p]] 0 0), (9, .int b.base), (10, .int x.1)],
            [(10, ⟨[.int x.2], false⟩), (6, ⟨[.int b.base, .int b.places, .sl 1 (b.cords.map SS) .sh, SS b.top, .clo 100 [] [], .clo 101 [] []], false⟩), (1, ⟨[.int b.base, .int b.places, .sl 1 (b.cords.map SS) .sh, SS b.top], false⟩)], [], none⟩)
            (fun x => x.1 ≤ b.base.toNat ∧ x.2 = worstD b c p x.1) (fun x => b.base.toNat - x.1) (0, worstD b c p 0) (by simp) (by simp -failIfUnchanged (disch := first | omega | (simp [wcs_len] <;> omega) | fail) only [go_sem, simprocAttr]; try simp [worstD]) (fun x => by simp -failIfUnchanged (disch := first | omega | (simp [wcs_len] <;> omega) | fail) only [go_sem, simprocAttr]) ?_
          rintro ⟨d, w⟩ ⟨hd, hw⟩
          dsimp only at hd hw ⊢
          have hsucc : worstD b c p (d + 1) = if 0 < manyD b yes3 yes2 c p d then max w (manyD b yes3 yes2 c p d) else w := by
            rw [hw, worstD, List.range_succ, List.foldl_append]
            rfl
          simp -failIfUnchanged (disch := first | omega | (simp [wcs_len] <;> omega) | fail) only [go_sem, simprocAttr]
          refine wcond_dec (fun h3 => ?_) (fun h3 => ?_)
          · simp -failIfUnchanged (disch := first | omega | (simp [wcs_len] <;> omega) | fail) only [go_sem, simprocAttr]
            refine wcall (c74 b 100 101 [] [] c p d) ?_
            simp -failIfUnchanged (disch := first | omega | (simp [wcs_len] <;> omega) | fail) only [go_sem, simprocAttr]
            refine wcall (c65 b hv 108 101 _ [] (onlyF yes3 c p d) yes2 (fun c' p' d' _ _ _ => c108 100 [] yes3 c p d c' p' d' (c100 c' p' d')) (fun p n _ _ => c101 p n)) ?_
            simp -failIfUnchanged (disch := first | omega | (simp [wcs_len] <;> omega) | fail) only [go_sem, simprocAttr]
            refine WGd_bool (fun h4 => ?_) (fun h4 => ?_)
            · simp -failIfUnchanged (disch := first | omega | (simp [wcs_len] <;> omega) | fail) only [go_sem, simprocAttr, h4]
              have h4' : 0 < manyD b yes3 yes2 c p d := by simpa [manyD] using h4
              refine wyield (hT _ _ _ _ _ rfl ?_)
              simp -failIfUnchanged (disch := first | omega | (simp [wcs_len] <;> omega) | fail) only [go_sem, simprocAttr, h4]
              refine ⟨(d + 1, max w (manyD b yes3 yes2 c p d)), ⟨by dsimp only; omega, by rw [hsucc, if_pos h4']⟩, by dsimp only; omega, ?_⟩
              simp -failIfUnchanged (disch := first | omega | (simp [wcs_len] <;> omega) | fail) only [go_sem, simprocAttr]
              simp [manyD]
            · simp -failIfUnchanged (disch := first | omega | (simp [wcs_len] <;> omega) | fail) only [go_sem, simprocAttr, h4]
              have h4' : ¬ 0 < manyD b yes3 yes2 c p d := by simpa [manyD] using h4
              refine ⟨(d + 1, w), ⟨by dsimp only; omega, by rw [hsucc, if_neg h4']⟩, by dsimp only; omega, ?_⟩
              simp -failIfUnchanged (disch := first | omega | (simp [wcs_len] <;> omega) | fail) only [go_sem, simprocAttr]
              try simp
          · simp -failIfUnchanged (disch := first | omega | (simp [wcs_len] <;> omega) | fail) only [go_sem, simprocAttr]
            have ed : d = b.base.toNat := by omega
            subst ed
            have hst := askRow_succ b c s0 p
            rw [← hss] at hst
            refine WGd_bool (fun h4 => ?_) (fun h4 => ?_)
            · simp -failIfUnchanged (disch := first | omega | (simp [wcs_len] <;> omega) | fail) only [go_sem, simprocAttr, h4]
              refine wcond_dec (fun h5 => ?_) (fun h5 => ?_)
              · simp -failIfUnchanged (disch := first | omega | (simp [wcs_len] <;> omega) | fail) only [go_sem, simprocAttr]
                refine ⟨(p + 1, askRow b c s0 (p + 1)), ⟨by dsimp only; omega, rfl⟩, by dsimp only; omega, ?_⟩
                rw [hst, askStep, if_pos (by rw [← hw]; exact .inr h5)]
                simp -failIfUnchanged (disch := first | omega | (simp [wcs_len] <;> omega) | fail) only [go_sem, simprocAttr]
                simp [hw]
              · simp -failIfUnchanged (disch := first | omega | (simp [wcs_len] <;> omega) | fail) only [go_sem, simprocAttr]
                simp only [Bool.not_eq_false', decide_eq_false_iff_not] at h4
                refine ⟨(p + 1, askRow b c s0 (p + 1)), ⟨by dsimp only; omega, rfl⟩, by dsimp only; omega, ?_⟩
                rw [hst, askStep, if_neg (by rw [← hw]; omega)]
                simp -failIfUnchanged (disch := first | omega | (simp [wcs_len] <;> omega) | fail) only [go_sem, simprocAttr]
                try simp
            · simp -failIfUnchanged (disch := first | omega | (simp [wcs_len] <;> omega) | fail) only [go_sem, simprocAttr, h4]
              refine ⟨(p + 1, askRow b c s0 (p + 1)), ⟨by dsimp only; omega, rfl⟩, by dsimp only; omega, ?_⟩
              rw [hst, askStep, if_pos (by rw [← hw]; simp at h4; exact .inl (by omega))]
              simp -failIfUnchanged (disch := first | omega | (simp [wcs_len] <;> omega) | fail) only [go_sem, simprocAttr]
              simp [hw]
        · simp -failIfUnchanged (disch := first | omega | (simp [wcs_len] <;> omega) | fail) only [go_sem, simprocAttr]
          have e : p = PL := by omega
          refine ⟨(c + 1, askD b (c + 1)), ⟨by dsimp only; omega, rfl⟩, by dsimp only; omega, ?_⟩
          rw [askD_succ, ← hs0, hPn, ← e, ← hss]
          simp -failIfUnchanged (disch := first | omega | (simp [wcs_len] <;> omega) | fail) only [go_sem, simprocAttr]
          try simp
      · simp -failIfUnchanged (disch := first | omega | (simp [wcs_len] <;> omega) | fail) only [go_sem, simprocAttr]
        have e : c = b.cords.length + 1 := by omega
        rw [hs0, e]

end Go.Proofs.Ytkkiipjfbebipaa

/- Tie. -/
set_option linter.unusedSimpArgs false
set_option linter.unusedVariables false
set_option linter.unnecessarySimpa false
namespace Go.Proofs.Ytkkiipjfbebipaa
open Go Go.V

def mostT (b : Bk) (k : Nat) : Int := (List.range k).foldl (fun m _ => w64 (m * min 10 (max 1 b.base))) 1

theorem mostT_succ (b : Bk) (k : Nat) : mostT b (k + 1) = w64 (mostT b k * min 10 (max 1 b.base)) := by
  unfold mostT
  rw [List.range_succ, List.foldl_append]
  rfl

theorem mostT_eq {b : Bk} (hb : 2 ≤ b.base ∧ b.base ≤ 10) : ∀ k, k ≤ 4 → mostT b k = ((b.base.toNat ^ k : Nat) : Int) ∧ b.base.toNat ^ k ≤ 10 ^ k
  | 0, _ => by simp [mostT]
  | k + 1, h => by
    obtain ⟨ih1, ih2⟩ := mostT_eq hb k (by omega)
    have hk : (10 : Nat) ^ k ≤ 1000 := by
      have : k = 0 ∨ k = 1 ∨ k = 2 ∨ k = 3 := by omega
      rcases this with rfl | rfl | rfl | rfl <;> decide
    have e : min 10 (max 1 b.base) = ((b.base.toNat : Nat) : Int) := by omega
    have hB : b.base.toNat ≤ 10 := by omega
    have h3 : b.base.toNat ^ k * b.base.toNat ≤ 10 ^ k * 10 := Nat.mul_le_mul ih2 hB
    refine ⟨?_, by rw [Nat.pow_succ, Nat.pow_succ]; exact h3⟩
    rw [mostT_succ, ih1, e, ← Int.natCast_mul, ← Nat.pow_succ, w64_id]
    rw [← Nat.pow_succ] at h3
    omega

theorem c42t (b : Bk) (hs : Small b) (n : Int) : Ctr Try.prog 42 [KB b, .int n]
    (if checkB b then
      if within n 0 (w64 (mostT b (min 4 (max 0 b.places)).toNat - 1)) then .tup [.sl 1 ((tieN b.base.toNat b.places.toNat n.toNat).map .int) .sh, .int 0] else .tup [.sl 1 [] .sh, .int 1]
    else .tup [.sl 1 [] .sh, .int 110]) := by
  refine ctr_of_wp hmix Try.func42 m42 rfl ?_
  unfold v42
  simp -failIfUnchanged (disch := first | omega | (simp [wcs_len] <;> omega) | fail) only [go_sem, simprocAttr]
  obtain ⟨K, hK⟩ : ∃ K : Nat, min 4 (max 0 b.places) = K := ⟨(min 4 (max 0 b.places)).toNat, by omega⟩
  rw [hK, Int.toNat_natCast]
  refine wp_loop' (Nat × Int) (fun x => ⟨[(2, .ptr 2 0), (3, .ptr 3 0), (6, .int x.2), (13, .int K), (14, .int x.1)],
    [(3, ⟨[.int n], false⟩), (2, ⟨[.int b.base, .int b.places, .sl 1 (b.cords.map SS) .sh, SS b.top], false⟩)], [], none⟩) (fun x => x.1 ≤ K ∧ x.2 = mostT b x.1) (fun x => K - x.1) (0, mostT b 0) ⟨by simp, rfl⟩ (by simp -failIfUnchanged (disch := first | omega | (simp [wcs_len] <;> omega) | fail) only [go_sem, simprocAttr]; try simp [mostT]) ?_
  rintro ⟨i, m⟩ ⟨hi, hm⟩
  dsimp only at hi hm ⊢
  simp -failIfUnchanged (disch := first | omega | (simp [wcs_len] <;> omega) | fail) only [go_sem, simprocAttr]
  refine wcond_dec (fun h => ?_) (fun h => ?_)
  · simp -failIfUnchanged (disch := first | omega | (simp [wcs_len] <;> omega) | fail) only [go_sem, simprocAttr]
    refine ⟨(i + 1, mostT b (i + 1)), ⟨by dsimp only; omega, rfl⟩, by dsimp only; omega, ?_⟩
    rw [mostT_succ, ← hm]
    simp -failIfUnchanged (disch := first | omega | (simp [wcs_len] <;> omega) | fail) only [go_sem, simprocAttr]
    try simp
  · have ei : i = K := by omega
    subst ei
    rw [hm]
    simp -failIfUnchanged (disch := first | omega | (simp [wcs_len] <;> omega) | fail) only [go_sem, simprocAttr]
    refine wcall (c86 _ _ _) ?_
    simp -failIfUnchanged (disch := first | omega | (simp [wcs_len] <;> omega) | fail) only [go_sem, simprocAttr]
    refine wcall (c85 b hs _) ?_
    cases hc : checkB b with
    | false => simp -failIfUnchanged (disch := first | omega | (simp [wcs_len] <;> omega) | fail) only [go_sem, simprocAttr]
    | true =>
      cases hw : within n 0 (w64 (mostT b i - 1)) with
      | false => simp -failIfUnchanged (disch := first | omega | (simp [wcs_len] <;> omega) | fail) only [go_sem, simprocAttr]
      | true =>
        have hv := val_of_check hc
        obtain ⟨hb1, hb2⟩ := hv.hb
        obtain ⟨hp1, hp2⟩ := hv.hp
        obtain ⟨P, hP⟩ : ∃ P, b.places.toNat = P := ⟨_, rfl⟩
        have hPi : b.places = (P : Int) := by omega
        have hiP : i = P := by omega
        subst hiP
        obtain ⟨hm1, hm2⟩ := mostT_eq hv.hb i (by omega)
        have h10 : (10 : Nat) ^ i ≤ 10000 := by
          have : i = 1 ∨ i = 2 ∨ i = 3 ∨ i = 4 := by omega
          rcases this with rfl | rfl | rfl | rfl <;> decide
        have hw2 : 0 ≤ n ∧ n ≤ w64 (mostT b i - 1) := by simpa [within] using hw
        rw [hm1, w64_id (by omega)] at hw2
        obtain ⟨n0, rfl⟩ : ∃ m : Nat, n = m := ⟨n.toNat, by omega⟩
        have em : ∀ n : Nat, Int.tmod (n : Int) b.base = ((n % b.base.toNat : Nat) : Int) := fun n => by
          obtain ⟨B, hB⟩ : ∃ B : Nat, b.base = B := ⟨b.base.toNat, by omega⟩
          rw [hB]; rfl
        have eq : ∀ n : Nat, Int.tdiv (n : Int) b.base = ((n / b.base.toNat : Nat) : Int) := fun n => by
          obtain ⟨B, hB⟩ : ∃ B : Nat, b.base = B := ⟨b.base.toNat, by omega⟩
          rw [hB]; rfl
        rw [hP]
        simp -failIfUnchanged (disch := first | omega | (simp [wcs_len] <;> omega) | fail) only [go_sem, simprocAttr, hPi]
        refine wcall_in hmix Try.func87 m87 rfl ?_
        unfold v87
        simp -failIfUnchanged (disch := first | omega | (simp [wcs_len] <;> omega) | fail) only [go_sem, simprocAttr]
        refine wp_range' ?_
        simp -failIfUnchanged (disch := first | omega | (simp [wcs_len] <;> omega) | fail) only [go_sem, simprocAttr]
        refine wrangew fun l T hT => ?_
        refine csem_of_wp hmix Try.func109 m109 rfl rfl ?_
        unfold v109
        simp -failIfUnchanged (disch := first | omega | (simp [wcs_len] <;> omega) | fail) only [go_sem, simprocAttr]
        refine wp_loopX (Nat × Nat × List Int) (fun x => ⟨[(0, .yld l), (1, .ptr 3001 0), (3, .int ((x.1 : Int) - 1))],
          [(3001, ⟨[.bsl 34 0 1 i false], false⟩), (8, ⟨[.bsl 34 0 1 i false], false⟩), (34, ⟨(List.replicate x.1 (0 : Int) ++ x.2.2).map .int, false⟩), (3, ⟨[.int x.2.1], false⟩), (2, ⟨[.int b.base, .int i, .sl 1 (b.cords.map SS) .sh, SS b.top], false⟩)], [], none⟩)
          (fun x => x.1 ≤ i ∧ x.2.1 < 4294967296 ∧ x.2.2.length = i - x.1 ∧ tieN b.base.toNat x.1 x.2.1 ++ x.2.2 = tieN b.base.toNat i n0) (fun x => x.1) (i, n0, []) ⟨by simp, by dsimp only; omega, by simp, by simp⟩ (by simp -failIfUnchanged (disch := first | omega | (simp [wcs_len] <;> omega) | fail) only [go_sem, simprocAttr]) (fun x => by simp -failIfUnchanged (disch := first | omega | (simp [wcs_len] <;> omega) | fail) only [go_sem, simprocAttr]) ?_
        rintro ⟨q, m, suf⟩ ⟨hq, hm, hsl, hsuf⟩
        dsimp only at hq hm hsl hsuf ⊢
        simp -failIfUnchanged (disch := first | omega | (simp [wcs_len] <;> omega) | fail) only [go_sem, simprocAttr]
        refine wcond_dec (fun h => ?_) (fun h => ?_)
        · obtain ⟨k, rfl⟩ : ∃ k, q = k + 1 := ⟨q - 1, by omega⟩
          rw [show ((k + 1 : Nat) : Int) - 1 = (k : Int) by omega]
          have hlen : (List.replicate (k + 1) (0 : Int) ++ suf).length = i := by simp; omega
          have hset : (List.replicate (k + 1) (0 : Int) ++ suf).set k ((m % b.base.toNat : Nat) : Int) = List.replicate k 0 ++ ((m % b.base.toNat : Nat) : Int) :: suf := by
            rw [List.replicate_succ', List.append_assoc, List.set_append_right _ _ (by simp)]
            simp
          have hdiv : m / b.base.toNat ≤ m := Nat.div_le_self _ _
          obtain ⟨m2, hm2⟩ : ∃ m2, m / b.base.toNat = m2 := ⟨_, rfl⟩
          rw [hm2] at hdiv
          generalize hxs : List.replicate (k + 1) (0 : Int) ++ suf = xs at hlen hset
          simp -failIfUnchanged (disch := first | omega | (simp [wcs_len] <;> omega) | fail) only [go_sem, simprocAttr]
          refine wyield (hT _ _ _ _ _ rfl ?_)
          simp -failIfUnchanged (disch := first | omega | (simp [wcs_len] <;> omega) | fail) only [go_sem, simprocAttr, em, eq, hm2]
          refine ⟨(k, m2, ((m % b.base.toNat : Nat) : Int) :: suf), ⟨by dsimp only; omega, by dsimp only; omega, by simp only [List.length_cons]; omega, ?_⟩, by dsimp only; omega, ?_⟩
          · rw [← hsuf]
            simp [tieN, hm2]
          · simp -failIfUnchanged (disch := first | omega | (simp [wcs_len] <;> omega) | fail) only [go_sem, simprocAttr, hset]
        · simp -failIfUnchanged (disch := first | omega | (simp [wcs_len] <;> omega) | fail) only [go_sem, simprocAttr]
          have e : q = 0 := by omega
          subst e
          simp only [List.replicate_zero, List.nil_append] at hsuf ⊢
          have hs2 : suf.length = i := by omega
          have e2 : suf = tieN b.base.toNat i n0 := by
            rw [← hsuf]
            rfl
          rw [if_pos (by omega), chunks_ints hs2.symm, e2]
          exact ⟨rfl, rfl⟩

end Go.Proofs.Ytkkiipjfbebipaa

/- Cord. -/
set_option linter.unusedSimpArgs false
set_option linter.unusedVariables false
set_option linter.unnecessarySimpa false
namespace Go.Proofs.Ytkkiipjfbebipaa
open Go Go.V

end Go.Proofs.Ytkkiipjfbebipaa

/- Blame. -/
set_option linter.unusedSimpArgs false
set_option linter.unusedVariables false
set_option linter.unnecessarySimpa false
namespace Go.Proofs.Ytkkiipjfbebipaa
open Go Go.V

/-- A cord could be retied with so few knots, tying or untying at a digit. -/
def blameAt (b : Bk) (c p d : Nat) : Bool := decide (0 < costL (((allC b)[c]?.getD default)[p]?.getD default) d) && decide ((solveL b (onlyF yes3 c p d) yes2).k = (solveL b yes3 yes2).k)
def blameC (b : Bk) (c : Nat) : Bool := (List.range ((allC b)[c]?.getD default).length).any fun p => (List.range b.base.toNat).any fun d => blameAt b c p d
def blameL (b : Bk) (k : Nat) : List Int := ((List.range k).filter (blameC b)).map (fun n : Nat => (n : Int))

theorem blameL_succ (b : Bk) (k : Nat) : blameL b (k + 1) = blameL b k ++ (if blameC b k then [(k : Int)] else []) := by
  unfold blameL
  rw [List.range_succ, List.filter_append, List.map_append]
  congr 1
  by_cases h : blameC b k <;> simp [h]

theorem blameL_len (b : Bk) (k : Nat) : (blameL b k).length ≤ k := by
  unfold blameL
  rw [List.length_map]
  exact Nat.le_trans (List.length_filter_le _ _) (by simp)

theorem c25 (b : Bk) (hs : Small b) : Ctr Try.prog 25 [KB b]
    (if checkB b then
      if (blameL b (b.cords.length + 1)).length = 0 then .tup [.sl 1 [] .sh, .int 3] else .tup [IS (blameL b (b.cords.length + 1)), .int 0]
    else .tup [.sl 1 [] .sh, .int 110]) := by
  refine ctr_of_wp hmix Try.func25 m25 rfl ?_
  unfold v25
  simp -failIfUnchanged (disch := first | omega | (simp [wcs_len] <;> omega) | fail) only [go_sem, simprocAttr]
  refine wcall (c23 b hs) ?_
  cases hc : checkB b with
  | false => simp -failIfUnchanged (disch := first | omega | (simp [wcs_len] <;> omega) | fail) only [go_sem, simprocAttr]
  | true =>
    have hv := val_of_check hc
    obtain ⟨hb1, hb2⟩ := hv.hb
    obtain ⟨hp1, hp2⟩ := hv.hp
    have hc4 := hv.hc
    obtain ⟨B, hB⟩ : ∃ B : Nat, b.base = B := ⟨b.base.toNat, by omega⟩
    have hBn : b.base.toNat = B := by omega
    obtain ⟨z, hz⟩ : ∃ z, (solveL b yes3 yes2).k = z := ⟨_, rfl⟩
    simp -failIfUnchanged (disch := first | omega | (simp [wcs_len] <;> omega) | fail) only [go_sem, simprocAttr, hz]
    refine wcall (c64 b) ?_
    simp -failIfUnchanged (disch := first | omega | (simp [wcs_len] <;> omega) | fail) only [go_sem, simprocAttr]
    refine wcall (c66 b hs) ?_
    have hal : (allC b).length = b.cords.length + 1 := by simp [allC]
    simp -failIfUnchanged (disch := first | omega | (simp [wcs_len] <;> omega) | fail) only [go_sem, simprocAttr]
    rw [hal]
    refine wp_loop' Nat (fun c => ⟨[(1, .ptr 1 0), (4, .int z), (6, .sl 1 ((blameL b c).map .int) (.own 6)), (7, .ptr 7 0), (24, .sl 1 ((allC b).map SS) .sh), (25, .int ((b.cords.length + 1 : Nat) : Int)), (26, .int c)],
        [(7, ⟨[.int b.base, .int b.places, .sl 1 (b.cords.map SS) .sh, SS b.top, .clo 100 [] [], .clo 101 [] []], false⟩), (1, ⟨[.int b.base, .int b.places, .sl 1 (b.cords.map SS) .sh, SS b.top], false⟩)], [(6, (blameL b c).length)], none⟩)
        (fun c => c ≤ b.cords.length + 1) (fun c => b.cords.length + 1 - c) 0 (by simp) (by simp -failIfUnchanged (disch := first | omega | (simp [wcs_len] <;> omega) | fail) only [go_sem, simprocAttr]; try simp [blameL]) ?_
    intro c hcl
    have hbl := blameL_len b c
    simp -failIfUnchanged (disch := first | omega | (simp [wcs_len] <;> omega) | fail) only [go_sem, simprocAttr]
    refine wcond_dec (fun h1 => ?_) (fun h1 => ?_)
    · have hclt : c < b.cords.length + 1 := by omega
      obtain ⟨cl, hcl2⟩ : ∃ cl, (allC b)[c]?.getD default = cl := ⟨_, rfl⟩
      have hclm : cl ∈ allC b := by rw [← hcl2]; exact mem_getD (by omega)
      have hcv : (cl.length : Int) = b.places ∧ ∀ s ∈ cl, 0 ≤ s.lo ∧ s.lo ≤ s.hi ∧ s.hi < b.base := by
        rcases List.mem_append.1 hclm with h | h
        · exact hv.cord cl h
        · simp at h; subst h; exact hv.top
      simp -failIfUnchanged (disch := first | omega | (simp [wcs_len] <;> omega) | fail) only [go_sem, simprocAttr, hcl2]
      refine wp_loop' Nat (fun p => ⟨[(1, .ptr 1 0), (4, .int z), (6, .sl 1 ((blameL b c).map .int) (.own 6)), (7, .ptr 7 0), (8, .int c), (24, .sl 1 ((allC b).map SS) .sh), (25, .int ((b.cords.length + 1 : Nat) : Int)), (26, .int c), (31, SS cl), (32, .int cl.length), (33, .int p)],
        [(7, ⟨[.int b.base, .int b.places, .sl 1 (b.cords.map SS) .sh, SS b.top, .clo 100 [] [], .clo 101 [] []], false⟩), (1, ⟨[.int b.base, .int b.places, .sl 1 (b.cords.map SS) .sh, SS b.top], false⟩)], [(6, (blameL b c).length)], none⟩)
        (fun p => p ≤ cl.length ∧ ∀ p', p' < p → ((List.range b.base.toNat).any fun d => blameAt b c p' d) = false) (fun p => cl.length - p) 0 (by simp) (by simp -failIfUnchanged (disch := first | omega | (simp [wcs_len] <;> omega) | fail) only [go_sem, simprocAttr]; try simp) ?_
      rintro p ⟨hpl, hpre⟩
      simp -failIfUnchanged (disch := first | omega | (simp [wcs_len] <;> omega) | fail) only [go_sem, simprocAttr]
      refine wcond_dec (fun h2 => ?_) (fun h2 => ?_)
      · have hplt : p < cl.length := by omega
        obtain ⟨s, hsp⟩ : ∃ s, cl[p]?.getD default = s := ⟨_, rfl⟩
        have hsv := hcv.2 s (by rw [← hsp]; exact mem_getD hplt)
        simp -failIfUnchanged (disch := first | omega | (simp [wcs_len] <;> omega) | fail) only [go_sem, simprocAttr, hsp]
        refine wp_loop' Nat (fun d => ⟨[(1, .ptr 1 0), (4, .int z), (6, .sl 1 ((blameL b c).map .int) (.own 6)), (7, .ptr 7 0), (8, .int c), (10, .int p), (11, .ptr 11 0), (24, .sl 1 ((allC b).map SS) .sh), (25, .int ((b.cords.length + 1 : Nat) : Int)), (26, .int c), (31, SS cl), (32, .int cl.length), (33, .int p), (39, .int b.base), (40, .int d)],
          [(11, ⟨[.int s.lo, .int s.hi], false⟩), (7, ⟨[.int b.base, .int b.places, .sl 1 (b.cords.map SS) .sh, SS b.top, .clo 100 [] [], .clo 101 [] []], false⟩), (1, ⟨[.int b.base, .int b.places, .sl 1 (b.cords.map SS) .sh, SS b.top], false⟩)], [(6, (blameL b c).length)], none⟩)
          (fun d => d ≤ B ∧ ∀ d', d' < d → blameAt b c p d' = false) (fun d => B - d) 0 (by simp) (by simp -failIfUnchanged (disch := first | omega | (simp [wcs_len] <;> omega) | fail) only [go_sem, simprocAttr]; try simp) ?_
        rintro d ⟨hdl, hdpre⟩
        have hat : blameAt b c p d = (decide (0 < costL s d) && decide ((solveL b (onlyF yes3 c p d) yes2).k = z)) := by
          unfold blameAt
          rw [hcl2, hsp, hz]
        have hyes : blameAt b c p d = true → d < B → blameL b (c + 1) = blameL b c ++ [(c : Int)] := by
          intro h hd
          rw [blameL_succ]
          have : blameC b c = true := by
            unfold blameC
            rw [List.any_eq_true]
            refine ⟨p, by rw [hcl2]; exact List.mem_range.2 hplt, ?_⟩
            rw [List.any_eq_true]
            exact ⟨d, List.mem_range.2 (by omega), h⟩
          rw [this]
          rfl
        have hno : blameAt b c p d = false → ∀ d', d' < d + 1 → blameAt b c p d' = false := by
          intro h d' hd'
          rcases Nat.lt_or_ge d' d with h' | h'
          · exact hdpre d' h'
          · rw [show d' = d by omega]; exact h
        simp -failIfUnchanged (disch := first | omega | (simp [wcs_len] <;> omega) | fail) only [go_sem, simprocAttr]
        refine wcond_dec (fun h3 => ?_) (fun h3 => ?_)
        · simp -failIfUnchanged (disch := first | omega | (simp [wcs_len] <;> omega) | fail) only [go_sem, simprocAttr]
          refine wcall (c73 s d (by omega) (by omega) (by omega)) ?_
          have hcost : max (max 0 (s.lo - (d : Int))) ((d : Int) - s.hi) = costL s d := rfl
          rw [hcost]
          simp -failIfUnchanged (disch := first | omega | (simp [wcs_len] <;> omega) | fail) only [go_sem, simprocAttr]
          refine WGd_bool (fun h4 => ?_) (fun h4 => ?_)
          · simp -failIfUnchanged (disch := first | omega | (simp [wcs_len] <;> omega) | fail) only [go_sem, simprocAttr, h4]
            refine wcall (c74 b 100 101 [] [] c p d) ?_
            simp -failIfUnchanged (disch := first | omega | (simp [wcs_len] <;> omega) | fail) only [go_sem, simprocAttr, h4]
            refine wcall (c71 b hv 108 101 _ [] (onlyF yes3 c p d) yes2 (fun c' p' d' _ _ _ => c108 100 [] yes3 c p d c' p' d' (c100 c' p' d')) (fun p n _ _ => c101 p n)) ?_
            simp -failIfUnchanged (disch := first | omega | (simp [wcs_len] <;> omega) | fail) only [go_sem, simprocAttr, h4]
            simp only [decide_eq_true_eq, gt_iff_lt] at h4
            refine wcond_dec (fun h5 => ?_) (fun h5 => ?_)
            · simp -failIfUnchanged (disch := first | omega | (simp [wcs_len] <;> omega) | fail) only [go_sem, simprocAttr]
              refine ⟨c + 1, by omega, by dsimp only; omega, ?_⟩
              dsimp only
              rw [hyes (by rw [hat]; simp [h4, h5]) (by omega)]
              simp -failIfUnchanged (disch := first | omega | (simp [wcs_len] <;> omega) | fail) only [go_sem, simprocAttr]
              try simp
            · simp -failIfUnchanged (disch := first | omega | (simp [wcs_len] <;> omega) | fail) only [go_sem, simprocAttr]
              refine ⟨d + 1, ⟨by omega, hno (by rw [hat]; simp [h5])⟩, by dsimp only; omega, ?_⟩
              simp -failIfUnchanged (disch := first | omega | (simp [wcs_len] <;> omega) | fail) only [go_sem, simprocAttr]
              try simp
          · simp -failIfUnchanged (disch := first | omega | (simp [wcs_len] <;> omega) | fail) only [go_sem, simprocAttr, h4]
            simp only [Bool.not_true, decide_eq_false_iff_not, gt_iff_lt] at h4
            refine ⟨d + 1, ⟨by omega, hno (by rw [hat]; simp [h4])⟩, by dsimp only; omega, ?_⟩
            simp -failIfUnchanged (disch := first | omega | (simp [wcs_len] <;> omega) | fail) only [go_sem, simprocAttr]
            try simp
        · simp -failIfUnchanged (disch := first | omega | (simp [wcs_len] <;> omega) | fail) only [go_sem, simprocAttr]
          have ed : d = B := by omega
          refine ⟨p + 1, ⟨by omega, fun p' hp' => ?_⟩, by dsimp only; omega, ?_⟩
          · rcases Nat.lt_or_ge p' p with h' | h'
            · exact hpre p' h'
            · rw [show p' = p by omega, List.any_eq_false]
              intro d' hd'
              rw [hdpre d' (by have := List.mem_range.1 hd'; omega)]
              simp
          · simp -failIfUnchanged (disch := first | omega | (simp [wcs_len] <;> omega) | fail) only [go_sem, simprocAttr]
            simp
      · simp -failIfUnchanged (disch := first | omega | (simp [wcs_len] <;> omega) | fail) only [go_sem, simprocAttr]
        have ep : p = cl.length := by omega
        refine ⟨c + 1, by omega, by dsimp only; omega, ?_⟩
        have : blameC b c = false := by
          unfold blameC
          rw [List.any_eq_false]
          intro p' hp'
          rw [hcl2] at hp'
          rw [hpre p' (by have := List.mem_range.1 hp'; omega)]
          simp
        dsimp only
        rw [blameL_succ, this]
        simp -failIfUnchanged (disch := first | omega | (simp [wcs_len] <;> omega) | fail) only [go_sem, simprocAttr]
        try simp
    · simp -failIfUnchanged (disch := first | omega | (simp [wcs_len] <;> omega) | fail) only [go_sem, simprocAttr]
      have e : c = b.cords.length + 1 := by omega
      subst e
      refine wcond_dec (fun h2 => ?_) (fun h2 => ?_)
      · simp -failIfUnchanged (disch := first | omega | (simp [wcs_len] <;> omega) | fail) only [go_sem, simprocAttr, h2]
        have h2' : (blameL b (b.cords.length + 1)).length = 0 := by omega
        simp [h2']
      · simp -failIfUnchanged (disch := first | omega | (simp [wcs_len] <;> omega) | fail) only [go_sem, simprocAttr, h2]
        have h2' : ¬ (blameL b (b.cords.length + 1)).length = 0 := by omega
        simp only [if_neg h2']

end Go.Proofs.Ytkkiipjfbebipaa

/- Plain law 1: sums over lists; tuples of numbers. -/
set_option linter.unusedSimpArgs false
set_option linter.unusedVariables false
set_option linter.unnecessarySimpa false
namespace Go.Proofs.Ytkkiipjfbebipaa

def sumF {α : Type} (l : List α) (f : α → Nat) : Nat := (l.map f).sum

section
variable {α β : Type}

theorem sumF_nil (f : α → Nat) : sumF [] f = 0 := rfl
theorem sumF_cons (a : α) (l : List α) (f : α → Nat) : sumF (a :: l) f = f a + sumF l f := by simp [sumF]
theorem sumF_append (l k : List α) (f : α → Nat) : sumF (l ++ k) f = sumF l f + sumF k f := by simp [sumF]
theorem sumF_map (l : List α) (g : α → β) (f : β → Nat) : sumF (l.map g) f = sumF l fun a => f (g a) := by simp [sumF, Function.comp_def]

theorem sumF_congr {l : List α} {f g : α → Nat} (h : ∀ a ∈ l, f a = g a) : sumF l f = sumF l g := by
  induction l with
  | nil => rfl
  | cons a r ih => rw [sumF_cons, sumF_cons, h a (by simp), ih fun b hb => h b (by simp [hb])]

theorem sumF_flatMap (l : List α) (g : α → List β) (f : β → Nat) : sumF (l.flatMap g) f = sumF l fun a => sumF (g a) f := by
  induction l with
  | nil => rfl
  | cons a r ih => rw [List.flatMap_cons, sumF_append, ih, sumF_cons]

theorem sumF_filter (l : List α) (p : α → Bool) (f : α → Nat) : sumF (l.filter p) f = sumF l fun a => if p a then f a else 0 := by
  induction l with
  | nil => rfl
  | cons a r ih =>
    rw [sumF_cons, ← ih]
    by_cases h : p a
    · rw [List.filter_cons_of_pos h, sumF_cons, if_pos h]
    · rw [List.filter_cons_of_neg h, if_neg h, Nat.zero_add]

theorem sumF_zero (l : List α) : (sumF l fun _ => 0) = 0 := by
  induction l with
  | nil => rfl
  | cons a r ih => rw [sumF_cons, ih]

theorem sumF_add (l : List α) (f g : α → Nat) : (sumF l fun a => f a + g a) = sumF l f + sumF l g := by
  induction l with
  | nil => rfl
  | cons a r ih => rw [sumF_cons, sumF_cons, sumF_cons, ih]; omega

theorem sumF_comm (l : List α) (k : List β) (f : α → β → Nat) : (sumF l fun a => sumF k (f a)) = sumF k fun b => sumF l fun a => f a b := by
  induction l with
  | nil => simp only [sumF_nil, sumF_zero]
  | cons a r ih =>
    rw [sumF_cons, ih, ← sumF_add]
    exact sumF_congr fun b _ => by rw [sumF_cons]

theorem sumF_if (c : Prop) [Decidable c] (l : List α) (f : α → Nat) : (if c then sumF l f else 0) = sumF l fun a => if c then f a else 0 := by
  by_cases h : c
  · simp only [if_pos h]
  · simp only [if_neg h, sumF_zero]

theorem sumF_pos {l : List α} {f : α → Nat} : 0 < sumF l f ↔ ∃ a ∈ l, 0 < f a := by
  induction l with
  | nil => simp [sumF_nil]
  | cons a r ih =>
    rw [sumF_cons]
    constructor
    · intro h
      by_cases h1 : 0 < f a
      · exact ⟨a, by simp, h1⟩
      · obtain ⟨b, hb, h2⟩ := ih.1 (by omega)
        exact ⟨b, by simp [hb], h2⟩
    · rintro ⟨b, hb, h⟩
      rcases List.mem_cons.1 hb with rfl | hb
      · omega
      · have := ih.2 ⟨b, hb, h⟩
        omega

theorem sumF_le {l : List α} {f g : α → Nat} (h : ∀ a ∈ l, f a ≤ g a) : sumF l f ≤ sumF l g := by
  induction l with
  | nil => simp [sumF_nil]
  | cons a r ih =>
    rw [sumF_cons, sumF_cons]
    have := h a (by simp)
    have := ih fun b hb => h b (by simp [hb])
    omega

theorem sumF_len (l : List α) : (sumF l fun _ => 1) = l.length := by
  induction l with
  | nil => rfl
  | cons a r ih => rw [sumF_cons, ih, List.length_cons]; omega

theorem sumF_range_succ (n : Nat) (f : Nat → Nat) : sumF (List.range (n + 1)) f = sumF (List.range n) f + f n := by
  rw [List.range_succ, sumF_append, sumF_cons, sumF_nil, Nat.add_zero]

theorem sumF_range_add (n m : Nat) (f : Nat → Nat) : sumF (List.range (n + m)) f = sumF (List.range n) f + sumF (List.range m) fun t => f (n + t) := by
  induction m with
  | zero => simp [sumF_nil]
  | succ m ih => rw [← Nat.add_assoc, sumF_range_succ, ih, sumF_range_succ, Nat.add_assoc]

theorem sumF_range_mul (B N : Nat) (f : Nat → Nat) : sumF (List.range (B * N)) f = sumF (List.range B) fun d => sumF (List.range N) fun t => f (d * N + t) := by
  induction B with
  | zero => simp [sumF_nil]
  | succ B ih => rw [Nat.succ_mul, sumF_range_add, ih, sumF_range_succ]

end

/-- All tuples of m numbers below N. -/
def tup : Nat → Nat → List (List Nat)
  | 0, _ => [[]]
  | m + 1, N => (List.range N).flatMap fun n => (tup m N).map fun t => n :: t

theorem tup_mem {m N : Nat} : ∀ {t : List Nat}, t ∈ tup m N ↔ t.length = m ∧ ∀ x ∈ t, x < N := by
  induction m with
  | zero =>
    intro t
    simp only [tup, List.mem_singleton]
    constructor
    · rintro rfl; simp
    · rintro ⟨h, _⟩; exact List.eq_nil_of_length_eq_zero h
  | succ m ih =>
    intro t
    simp only [tup, List.mem_flatMap, List.mem_range, List.mem_map]
    constructor
    · rintro ⟨n, hn, u, hu, rfl⟩
      obtain ⟨h1, h2⟩ := ih.1 hu
      refine ⟨by simp [h1], fun x hx => ?_⟩
      rcases List.mem_cons.1 hx with rfl | hx
      · exact hn
      · exact h2 x hx
    · rintro ⟨h1, h2⟩
      cases t with
      | nil => simp at h1
      | cons n u => exact ⟨n, h2 n (by simp), u, ih.2 ⟨by simpa using h1, fun x hx => h2 x (by simp [hx])⟩, rfl⟩

theorem sumF_tup_succ (m N : Nat) (f : List Nat → Nat) : sumF (tup (m + 1) N) f = sumF (List.range N) fun n => sumF (tup m N) fun t => f (n :: t) := by
  rw [tup, sumF_flatMap]
  exact sumF_congr fun n _ => by rw [sumF_map]

/-- Digits ahead of numbers. -/
def comb (N : Nat) : List Nat → List Nat → List Nat
  | d :: ds, t :: ts => (d * N + t) :: comb N ds ts
  | _, _ => []

theorem sumF_tup_mul (B N : Nat) : ∀ (m : Nat) (f : List Nat → Nat), sumF (tup m (B * N)) f = sumF (tup m N) fun t => sumF (tup m B) fun d => f (comb N d t)
  | 0, f => by simp [tup, sumF_cons, sumF_nil, comb]
  | m + 1, f => by
    rw [sumF_tup_succ, sumF_range_mul, sumF_tup_succ]
    have : (fun d => sumF (List.range N) fun t => sumF (tup m (B * N)) fun u => f ((d * N + t) :: u)) = fun d => sumF (List.range N) fun t => sumF (tup m N) fun u => sumF (tup m B) fun e => f ((d * N + t) :: comb N e u) := by
      funext d
      congr 1
      funext t
      exact sumF_tup_mul B N m _
    rw [this, sumF_comm]
    refine sumF_congr fun t _ => ?_
    rw [sumF_comm]
    refine sumF_congr fun u _ => ?_
    rw [sumF_tup_succ]
    rfl

theorem comb_low {N : Nat} : ∀ {d t : List Nat}, d.length = t.length → (∀ x ∈ t, x < N) → (comb N d t).map (· % N) = t ∧ (comb N d t).map (· / N) = d
  | [], [], _, _ => ⟨rfl, rfl⟩
  | d :: ds, t :: ts, hl, ht => by
    obtain ⟨h1, h2⟩ := comb_low (d := ds) (t := ts) (by simpa using hl) fun x hx => ht x (by simp [hx])
    have h0 := ht t (by simp)
    simp only [comb, List.map_cons, h1, h2, List.cons.injEq, and_true]
    constructor
    · rw [Nat.mul_comm, Nat.mul_add_mod, Nat.mod_eq_of_lt h0]
    · rw [Nat.mul_comm, Nat.mul_add_div (by omega), Nat.div_eq_of_lt h0, Nat.add_zero]
  | [], _ :: _, h, _ => by simp at h
  | _ :: _, [], h, _ => by simp at h

end Go.Proofs.Ytkkiipjfbebipaa
