/- Merged by program: Code, CodeQ, CodeT, T401, T402, T403, T404, T405, T406, T407, T408, T409, T410, T411, T412, T413, T414, T415, T416, T417, T418, T419, T420, T421, T422, T423. -/
import Derived.Test.YtggnmemkhookdaaGreatDoorM3
import Derived.Test.YtggnmemkhookdaaGreatDoorProg
import Derived.ProofKit
namespace Go.Proofs.YtggnmemkhookdaaGreatDoor
open Go Go.V
set_option maxRecDepth 100000
def v4 : VC :=
 (.seq (.ops false [⟨some 1,.box 1 4 (.t 0),none⟩,
 ⟨some 2,.mov (.k (.bool false)),none⟩] (some [1])) (.seq (.seq (.ops false [⟨some 6,.load 4 true (.t 1) [],none⟩,
 ⟨some 7,.call 15 [.t 6],none⟩] (some [1,7])) (.cond (.t 7) (.seq (.ops false [⟨some 2,.mov (.k (.bool true)),none⟩] (some [2])) .ret) .skip)) (.seq (.seq (.ops false [⟨some 8,.load 4 true (.t 1) [],none⟩,
 ⟨some 9,.call 5 [.t 8],none⟩,
 ⟨some 10,.bin .neq (.t 9) (.k (.int 0)),none⟩] (some [1,10])) (.cond (.t 10) (.seq (.ops false [⟨some 2,.mov (.k (.bool false)),none⟩] (some [2])) .ret) .skip)) (.seq (.ops false [⟨some 3,.mov (.k (.int 1)),none⟩] (some [1,3])) (.seq (.seq (.ops false [⟨some 4,.mov (.k (.int 0)),none⟩] (some [1,3,4])) (.block 0 (.loop (.seq (.seq (.ops false [⟨some 11,.mov (.t 4),none⟩,
 ⟨some 12,.fld 2 (.t 1),none⟩,⟨some 13,.load 1 false (.t 12) [],none⟩,⟨some 14,.len (.t 13),none⟩,
 ⟨some 15,.bin .lss (.t 11) (.t 14),none⟩] (some [1,3,4,15])) (.cond (.t 15) .skip (.exit 0))) (.seq (.block 1 (.seq (.ops false [⟨some 5,.mov (.k (.int 0)),none⟩] (some [1,3,4,5])) (.block 2 (.loop (.seq (.seq (.ops false [⟨some 18,.mov (.t 5),none⟩,
 ⟨some 19,.fld 2 (.t 1),none⟩,⟨some 20,.load 1 false (.t 19) [],none⟩,⟨some 21,.mov (.t 4),none⟩,⟨some 22,.idx 1 (.t 20) (.t 21),none⟩,
 ⟨some 23,.load 1 false (.t 22) [],none⟩,⟨some 24,.len (.t 23),none⟩,
 ⟨some 25,.bin .lss (.t 18) (.t 24),none⟩] (some [1,3,4,5,25])) (.cond (.t 25) .skip (.exit 2))) (.seq (.block 3 (.seq (.ops true [⟨some 28,.mov (.t 3),none⟩,
 ⟨some 29,.fld 2 (.t 1),none⟩,⟨some 30,.load 1 false (.t 29) [],none⟩,⟨some 31,.mov (.t 4),none⟩,⟨some 32,.idx 1 (.t 30) (.t 31),none⟩,
 ⟨some 33,.load 1 false (.t 32) [],none⟩,⟨some 34,.mov (.t 5),none⟩,⟨some 35,.idx 2 (.t 33) (.t 34),none⟩,⟨some 36,.fld 1 (.t 35),none⟩,
 ⟨some 37,.load 1 false (.t 36) [],none⟩,⟨some 38,.fld 2 (.t 1),none⟩,⟨some 39,.load 1 false (.t 38) [],none⟩,⟨some 40,.mov (.t 4),none⟩,
 ⟨some 41,.idx 1 (.t 39) (.t 40),none⟩,⟨some 42,.load 1 false (.t 41) [],none⟩,⟨some 43,.mov (.t 5),none⟩,⟨some 44,.idx 2 (.t 42) (.t 43),none⟩,
 ⟨some 45,.fld 0 (.t 44),none⟩,⟨some 46,.load 1 false (.t 45) [],none⟩,⟨some 47,.bin .sub (.t 37) (.t 46),none⟩,⟨some 48,.bin .add (.t 47) (.k (.int 1)),none⟩,
 ⟨some 49,.bin .mul (.t 28) (.t 48),none⟩,⟨some 3,.mov (.t 49),none⟩] (some [1,3,4,5])) (.seq (.ops false [⟨some 50,.mov (.t 3),none⟩,
 ⟨some 51,.bin .gtr (.t 50) (.k (.int 400)),none⟩] (some [1,3,4,5,51])) (.cond (.t 51) (.seq (.ops false [⟨some 2,.mov (.k (.bool true)),none⟩] (some [2])) .ret) .skip)))) (.ops false [⟨some 26,.mov (.t 5),none⟩,
 ⟨some 27,.bin .add (.t 26) (.k (.int 1)),none⟩,⟨some 5,.mov (.t 27),none⟩] (some [1,3,4,5])))))))) (.ops false [⟨some 16,.mov (.t 4),none⟩,
 ⟨some 17,.bin .add (.t 16) (.k (.int 1)),none⟩,⟨some 4,.mov (.t 17),none⟩] (some [1,3,4]))))))) (.seq (.ops false [⟨some 52,.load 4 true (.t 1) [],none⟩,
 ⟨some 53,.call 9 [.t 52],none⟩,⟨some 54,.bin .gtr (.t 53) (.k (.int 1000)),none⟩,⟨some 2,.mov (.t 54),none⟩] (some [2])) .ret))))))
theorem m4 : fmatch Tryz.prog Tryz.f4 1 [.tmp 2] v4 = true := by kernel_rfl
def v5 : VC :=
 (.seq (.ops false [⟨some 1,.box 1 4 (.t 0),none⟩,⟨some 2,.mov (.k (.int 0)),none⟩] (some [1])) (.seq (.seq (.ops false [⟨some 4,.fld 0 (.t 1),none⟩,
 ⟨some 5,.load 1 false (.t 4) [],none⟩,⟨some 6,.call 16 [.t 5,.k (.int 2),.k (.int 10)],none⟩,⟨some 7,.not (.t 6),none⟩,⟨some 8,.mov (.t 7),none⟩,
 ⟨some 9,.fld 1 (.t 1),some (8,false)⟩,⟨some 10,.load 1 false (.t 9) [],some (8,false)⟩,⟨some 11,.call 16 [.t 10,.k (.int 1),.k (.int 4)],some (8,false)⟩,
 ⟨some 12,.not (.t 11),some (8,false)⟩,⟨some 13,.pick (.t 8) (.k (.bool true)) (.t 12),none⟩,⟨some 14,.mov (.t 13),none⟩,⟨some 15,.fld 2 (.t 1),some (14,false)⟩,
 ⟨some 16,.load 1 false (.t 15) [],some (14,false)⟩,⟨some 17,.len (.t 16),some (14,false)⟩,⟨some 18,.bin .gtr (.t 17) (.k (.int 4)),some (14,false)⟩,
 ⟨some 19,.pick (.t 14) (.k (.bool true)) (.t 18),none⟩,⟨some 20,.mov (.t 19),none⟩,⟨some 21,.load 4 true (.t 1) [],some (20,false)⟩,
 ⟨some 22,.fld 3 (.t 1),some (20,false)⟩,⟨some 23,.load 1 false (.t 22) [],some (20,false)⟩,⟨some 24,.call 17 [.t 21,.t 23],some (20,false)⟩,
 ⟨some 25,.not (.t 24),some (20,false)⟩,
 ⟨some 26,.pick (.t 20) (.k (.bool true)) (.t 25),none⟩] (some [1,26])) (.cond (.t 26) (.seq (.ops false [⟨some 2,.mov (.k (.int 110)),none⟩] (some [2])) .ret) .skip)) (.seq (.seq (.ops false [⟨some 3,.mov (.k (.int 0)),none⟩] (some [1,3])) (.block 0 (.loop (.seq (.seq (.ops false [⟨some 27,.mov (.t 3),none⟩,
 ⟨some 28,.fld 2 (.t 1),none⟩,⟨some 29,.load 1 false (.t 28) [],none⟩,⟨some 30,.len (.t 29),none⟩,
 ⟨some 31,.bin .lss (.t 27) (.t 30),none⟩] (some [1,3,31])) (.cond (.t 31) .skip (.exit 0))) (.seq (.block 1 (.seq (.ops true [⟨some 34,.load 4 true (.t 1) [],none⟩,
 ⟨some 35,.fld 2 (.t 1),none⟩,⟨some 36,.load 1 false (.t 35) [],none⟩,⟨some 37,.mov (.t 3),none⟩,⟨some 38,.idx 1 (.t 36) (.t 37),none⟩,
 ⟨some 39,.load 1 false (.t 38) [],none⟩,⟨some 40,.call 17 [.t 34,.t 39],none⟩,
 ⟨some 41,.not (.t 40),none⟩] (some [1,3,41])) (.cond (.t 41) (.seq (.ops false [⟨some 2,.mov (.k (.int 110)),none⟩] (some [2])) .ret) .skip))) (.ops false [⟨some 32,.mov (.t 3),none⟩,
 ⟨some 33,.bin .add (.t 32) (.k (.int 1)),none⟩,
 ⟨some 3,.mov (.t 33),none⟩] (some [1,3]))))))) (.seq (.ops false [⟨some 2,.mov (.k (.int 0)),none⟩] (some [2])) .ret))))
theorem m5 : fmatch Tryz.prog Tryz.f5 1 [.tmp 2] v5 = true := by kernel_rfl
def v6 : VC :=
 (.seq (.ops false [⟨some 6,.mov (.k (.bool false)),none⟩] (some [0,1,2])) (.seq (.ops false [⟨some 7,.mov (.t 1),none⟩,⟨some 8,.mov (.t 0),none⟩,
 ⟨some 9,.bin .leq (.t 7) (.t 8),none⟩,⟨some 10,.mov (.t 9),none⟩,⟨some 11,.mov (.t 0),some (10,true)⟩,⟨some 12,.mov (.t 2),some (10,true)⟩,
 ⟨some 13,.bin .leq (.t 11) (.t 12),some (10,true)⟩,⟨some 14,.pick (.t 10) (.t 13) (.k (.bool false)),none⟩,⟨some 6,.mov (.t 14),none⟩] (some [6])) .ret))
theorem m6 : fmatch Tryz.prog Tryz.f6 3 [.tmp 6] v6 = true := by kernel_rfl
def v8 : VC :=
 (.seq (.ops false [⟨some 2,.box 2 4 (.t 0),none⟩,⟨some 4,.alloc 4 [.int 0,.int 0],none⟩,
 ⟨some 5,.mov (.k (.int 0)),none⟩] (some [1,2,4])) (.seq (.seq (.ops true [⟨some 7,.load 4 true (.t 2) [],none⟩,⟨some 8,.load 4 true (.t 2) [],none⟩,
 ⟨some 9,.mov (.t 1),none⟩,⟨some 10,.call 25 [.t 8,.t 9],none⟩,⟨some 11,.call 24 [.t 7,.t 10],none⟩,
 ⟨some 6,.mov (.t 11),none⟩] (some [1,2,4,6])) (.seq (.ops false [⟨some 12,.mov (.t 6),none⟩,
 ⟨some 13,.bin .neq (.t 12) (.k (.int 0)),none⟩] (some [1,2,4,6,13])) (.cond (.t 13) (.seq (.ops false [⟨some 14,.build [.int 0,.int 0] [],none⟩,
 ⟨some 15,.mov (.t 6),none⟩,⟨none,.store 2 (.t 4) (.t 14) (some 4),none⟩,
 ⟨some 5,.mov (.t 15),none⟩] (some [4,5])) .ret) .skip))) (.seq (.ops true [⟨some 16,.fld 0 (.t 2),none⟩,⟨some 17,.load 1 false (.t 16) [4],none⟩,
 ⟨some 18,.load 4 true (.t 2) [4],none⟩,⟨some 19,.call 27 [.t 18],none⟩,⟨some 20,.mov (.t 1),none⟩,⟨some 21,.idx 1 (.t 19) (.t 20),none⟩,
 ⟨some 22,.load 1 false (.t 21) [4],none⟩,⟨some 23,.call 26 [.t 17,.t 22],none⟩,⟨none,.store 2 (.t 4) (.t 23) (some 4),none⟩,
 ⟨some 5,.mov (.k (.int 0)),none⟩] (some [4,5])) .ret)))
theorem m8 : fmatch Tryz.prog Tryz.f8 2 [.cell 4 35, .tmp 5] v8 = true := by kernel_rfl
def v9 : VC :=
 (.seq (.ops false [⟨some 1,.box 1 4 (.t 0),none⟩,
 ⟨some 2,.mov (.k (.int 0)),none⟩] (some [1])) (.seq (.ops false [⟨some 3,.mov (.k (.int 1)),none⟩] (some [1,3])) (.seq (.seq (.ops false [⟨some 4,.mov (.k (.int 0)),none⟩] (some [1,3,4])) (.block 0 (.loop (.seq (.seq (.ops false [⟨some 5,.mov (.t 4),none⟩,
 ⟨some 6,.fld 1 (.t 1),none⟩,⟨some 7,.load 1 false (.t 6) [],none⟩,
 ⟨some 8,.bin .lss (.t 5) (.t 7),none⟩] (some [1,3,4,8])) (.cond (.t 8) .skip (.exit 0))) (.seq (.block 1 (.ops false [⟨some 11,.mov (.t 3),none⟩,
 ⟨some 12,.fld 0 (.t 1),none⟩,⟨some 13,.load 1 false (.t 12) [],none⟩,⟨some 14,.bin .mul (.t 11) (.t 13),none⟩,
 ⟨some 3,.mov (.t 14),none⟩] (some [1,3,4]))) (.ops false [⟨some 9,.mov (.t 4),none⟩,⟨some 10,.bin .add (.t 9) (.k (.int 1)),none⟩,
 ⟨some 4,.mov (.t 10),none⟩] (some [1,3,4]))))))) (.seq (.ops false [⟨some 15,.mov (.t 3),none⟩,⟨some 2,.mov (.t 15),none⟩] (some [2])) .ret))))
theorem m9 : fmatch Tryz.prog Tryz.f9 1 [.tmp 2] v9 = true := by kernel_rfl
def v10 : VC :=
 (.seq (.ops false [⟨some 1,.box 1 6 (.t 0),none⟩,⟨some 2,.mov (.k (.int 0)),none⟩,
 ⟨some 3,.mov (.k (.int 0)),none⟩] (some [1])) (.seq (.seq (.ops false [⟨some 5,.load 6 true (.t 1) [],none⟩,⟨some 6,.call 28 [.t 5],none⟩,
 ⟨some 4,.mov (.t 6),none⟩] (some [1,4])) (.seq (.ops false [⟨some 7,.mov (.t 4),none⟩,
 ⟨some 8,.bin .neq (.t 7) (.k (.int 0)),none⟩] (some [1,4,8])) (.cond (.t 8) (.seq (.ops false [⟨some 9,.mov (.t 4),none⟩,⟨some 2,.mov (.k (.int 0)),none⟩,
 ⟨some 3,.mov (.t 9),none⟩] (some [2,3])) .ret) .skip))) (.seq (.ops false [⟨some 10,.load 6 true (.t 1) [],none⟩,⟨some 11,.call 29 [.t 10],none⟩,
 ⟨some 2,.mov (.t 11),none⟩,⟨some 3,.mov (.k (.int 0)),none⟩] (some [2,3])) .ret)))
theorem m10 : fmatch Tryz.prog Tryz.f10 1 [.tmp 2, .tmp 3] v10 = true := by kernel_rfl
def v11 : VC :=
 (.seq (.ops false [⟨some 1,.box 1 6 (.t 0),none⟩,⟨some 2,.nils 2 2,none⟩,
 ⟨some 3,.mov (.k (.int 0)),none⟩] (some [1])) (.seq (.seq (.ops false [⟨some 14,.load 6 true (.t 1) [],none⟩,⟨some 15,.call 28 [.t 14],none⟩,
 ⟨some 4,.mov (.t 15),none⟩] (some [1,4])) (.seq (.ops false [⟨some 16,.mov (.t 4),none⟩,
 ⟨some 17,.bin .neq (.t 16) (.k (.int 0)),none⟩] (some [1,4,17])) (.cond (.t 17) (.seq (.ops false [⟨some 18,.mov (.t 4),none⟩,⟨some 2,.nils 501 2,none⟩,
 ⟨some 3,.mov (.t 18),none⟩] (some [2,3])) .ret) .skip))) (.seq (.ops false [⟨some 19,.mmake 71 2,none⟩,
 ⟨some 5,.mov (.t 19),none⟩] (some [1,5])) (.seq (.ops false [⟨some 20,.load 6 true (.t 1) [],none⟩,⟨some 21,.call 30 [.t 20],none⟩,
 ⟨some 6,.mov (.t 21),none⟩] (some [5,6])) (.seq (.seq (.ops false [⟨some 22,.mov (.t 6),none⟩,⟨some 23,.len (.t 22),none⟩,
 ⟨some 24,.mov (.k (.int 0)),none⟩] (some [5,6,22,23,24])) (.block 0 (.loop (.seq (.ops false [⟨some 25,.bin .lss (.t 24) (.t 23),none⟩] (some [5,6,22,23,24,25])) (.seq (.cond (.t 25) .skip (.exit 0)) (.seq (.block 1 (.seq (.ops false [⟨some 26,.idx 1 (.t 22) (.t 24),none⟩,
 ⟨some 27,.load 1 false (.t 26) [],none⟩,⟨some 8,.mov (.t 27),none⟩] (some [5,6,8,22,23,24])) (.seq (.ops false [⟨some 28,.mov (.t 8),none⟩,
 ⟨some 29,.len (.t 28),none⟩,
 ⟨some 30,.mov (.k (.int 0)),none⟩] (some [5,6,22,23,24,28,29,30])) (.block 2 (.loop (.seq (.ops false [⟨some 31,.bin .lss (.t 30) (.t 29),none⟩] (some [5,6,22,23,24,28,29,30,31])) (.seq (.cond (.t 31) .skip (.exit 2)) (.seq (.block 3 (.seq (.ops false [⟨some 32,.idx 2 (.t 28) (.t 30),none⟩,
 ⟨some 33,.load 2 true (.t 32) [],none⟩,⟨some 10,.alloc 10 [.int 0,.int 0],none⟩,
 ⟨none,.store 2 (.t 10) (.t 33) (some 10),none⟩] (some [5,6,10,22,23,24,28,29,30])) (.mbump 71 (.t 5) (.load 2 true (.t 10) []) [34,35,36,37,38,39] (some [5,6,22,23,24,28,29,30])))) (.ops false [⟨some 40,.bin .add (.t 30) (.k (.int 1)),none⟩,
 ⟨some 30,.mov (.t 40),none⟩] (some [5,6,22,23,24,28,29,30])))))))))) (.ops false [⟨some 41,.bin .add (.t 24) (.k (.int 1)),none⟩,
 ⟨some 24,.mov (.t 41),none⟩] (some [5,6,22,23,24])))))))) (.seq (.ops false [⟨some 11,.nils 11 2,none⟩] (some [5,6,11])) (.seq (.seq (.ops false [⟨some 42,.mov (.t 6),none⟩,
 ⟨some 43,.idx 1 (.t 42) (.k (.int 0)),none⟩,⟨some 44,.load 1 false (.t 43) [],none⟩,⟨some 45,.len (.t 44),none⟩,
 ⟨some 46,.mov (.k (.int 0)),none⟩] (some [5,6,11,44,45,46])) (.block 4 (.loop (.seq (.ops false [⟨some 47,.bin .lss (.t 46) (.t 45),none⟩] (some [5,6,11,44,45,46,47])) (.seq (.cond (.t 47) .skip (.exit 4)) (.seq (.block 5 (.seq (.ops false [⟨some 48,.idx 2 (.t 44) (.t 46),none⟩,
 ⟨some 49,.load 2 true (.t 48) [],none⟩,⟨some 13,.alloc 13 [.int 0,.int 0],none⟩,
 ⟨none,.store 2 (.t 13) (.t 49) (some 13),none⟩] (some [5,6,11,13,44,45,46])) (.seq (.ops false [⟨some 50,.mov (.t 5),none⟩,
 ⟨some 51,.load 2 true (.t 13) [],none⟩,⟨some 52,.mlook 71 (.t 50) (.t 51),none⟩,⟨some 53,.mov (.t 6),none⟩,⟨some 54,.len (.t 53),none⟩,
 ⟨some 55,.bin .eql (.t 52) (.t 54),none⟩] (some [5,6,11,13,44,45,46,55])) (.cond (.t 55) (.ops false [⟨some 56,.mov (.t 11),none⟩,
 ⟨some 57,.load 2 true (.t 13) [],none⟩,⟨some 58,.bslice 2 [.t 57],none⟩,⟨some 59,.app 59 2 16 (.t 56) (.t 58),none⟩,
 ⟨some 11,.mov (.t 59),none⟩] (some [5,6,11,44,45,46])) .skip)))) (.ops false [⟨some 60,.bin .add (.t 46) (.k (.int 1)),none⟩,
 ⟨some 46,.mov (.t 60),none⟩] (some [5,6,11,44,45,46])))))))) (.seq (.ops false [⟨some 61,.mov (.t 11),none⟩,⟨some 2,.mov (.t 61),none⟩,
 ⟨some 3,.mov (.k (.int 0)),none⟩] (some [2,3])) .ret))))))))
theorem m11 : fmatch Tryz.prog Tryz.f11 1 [.tmp 2, .tmp 3] v11 = true := by kernel_rfl
def v12 : VC :=
 (.seq (.ops false [⟨some 2,.box 2 6 (.t 0),none⟩,⟨some 4,.alloc 4 [.int 0,.int 0],none⟩,
 ⟨some 5,.mov (.k (.int 0)),none⟩] (some [1,2,4])) (.seq (.seq (.ops true [⟨some 12,.load 6 true (.t 2) [],none⟩,⟨some 13,.mov (.t 1),none⟩,
 ⟨some 14,.fld 2 (.t 2),none⟩,⟨some 15,.load 1 false (.t 14) [],none⟩,⟨some 16,.bin .sub (.t 15) (.k (.int 1)),none⟩,
 ⟨some 17,.call 32 [.t 13,.k (.int 0),.t 16],none⟩,⟨some 18,.call 31 [.t 12,.t 17],none⟩,
 ⟨some 6,.mov (.t 18),none⟩] (some [1,2,4,6])) (.seq (.ops false [⟨some 19,.mov (.t 6),none⟩,
 ⟨some 20,.bin .neq (.t 19) (.k (.int 0)),none⟩] (some [1,2,4,6,20])) (.cond (.t 20) (.seq (.ops false [⟨some 21,.build [.int 0,.int 0] [],none⟩,
 ⟨some 22,.mov (.t 6),none⟩,⟨none,.store 2 (.t 4) (.t 21) (some 4),none⟩,
 ⟨some 5,.mov (.t 22),none⟩] (some [4,5])) .ret) .skip))) (.seq (.ops false [⟨some 23,.load 6 true (.t 2) [],none⟩,⟨some 24,.call 30 [.t 23],none⟩,
 ⟨some 7,.mov (.t 24),none⟩] (some [1,2,4,7])) (.seq (.ops true [⟨some 25,.mov (.t 7),none⟩,⟨some 26,.idx 1 (.t 25) (.k (.int 0)),none⟩,
 ⟨some 27,.load 1 false (.t 26) [8],none⟩,⟨some 28,.load 6 true (.t 2) [8],none⟩,⟨some 29,.mov (.t 1),none⟩,⟨some 30,.call 33 [.t 27,.t 28,.t 29],none⟩,
 ⟨some 8,.alloc 8 [.int 0,.int 0],none⟩,⟨none,.store 2 (.t 8) (.t 30) (some 8),none⟩] (some [1,2,4,7,8])) (.seq (.seq (.ops false [⟨some 31,.mov (.t 7),none⟩,
 ⟨some 32,.len (.t 31),none⟩,
 ⟨some 33,.mov (.k (.int 0)),none⟩] (some [1,2,4,8,31,32,33])) (.block 0 (.loop (.seq (.ops false [⟨some 34,.bin .lss (.t 33) (.t 32),none⟩] (some [1,2,4,8,31,32,33,34])) (.seq (.cond (.t 34) .skip (.exit 0)) (.seq (.block 1 (.seq (.ops false [⟨some 35,.idx 1 (.t 31) (.t 33),none⟩,
 ⟨some 36,.load 1 false (.t 35) [],none⟩,⟨some 10,.mov (.t 36),none⟩] (some [1,2,4,8,10,31,32,33])) (.seq (.ops false [⟨some 37,.mov (.t 10),none⟩,
 ⟨some 38,.load 6 true (.t 2) [],none⟩,⟨some 39,.mov (.t 1),none⟩,⟨some 40,.call 33 [.t 37,.t 38,.t 39],none⟩,⟨some 11,.alloc 11 [.int 0,.int 0],none⟩,
 ⟨none,.store 2 (.t 11) (.t 40) (some 11),none⟩] (some [1,2,4,8,11,31,32,33])) (.ops false [⟨some 41,.fld 0 (.t 8),none⟩,⟨some 42,.load 1 false (.t 41) [],none⟩,
 ⟨some 43,.fld 0 (.t 11),none⟩,⟨some 44,.load 1 false (.t 43) [],none⟩,⟨some 45,.min (.t 42) (.t 44),none⟩,⟨some 46,.fld 1 (.t 8),none⟩,
 ⟨some 47,.load 1 false (.t 46) [],none⟩,⟨some 48,.fld 1 (.t 11),none⟩,⟨some 49,.load 1 false (.t 48) [],none⟩,⟨some 50,.max (.t 47) (.t 49),none⟩,
 ⟨some 51,.build [.int 0,.int 0] [(0,1,.t 45),(1,1,.t 50)],none⟩,
 ⟨none,.store 2 (.t 8) (.t 51) (some 8),none⟩] (some [1,2,4,8,31,32,33]))))) (.ops false [⟨some 52,.bin .add (.t 33) (.k (.int 1)),none⟩,
 ⟨some 33,.mov (.t 52),none⟩] (some [1,2,4,8,31,32,33])))))))) (.seq (.ops false [⟨some 53,.load 2 true (.t 8) [],none⟩,
 ⟨none,.store 2 (.t 4) (.t 53) (some 4),none⟩,⟨some 5,.mov (.k (.int 0)),none⟩] (some [4,5])) .ret))))))
theorem m12 : fmatch Tryz.prog Tryz.f12 2 [.cell 4 35, .tmp 5] v12 = true := by kernel_rfl
def v13 : VC :=
 (.seq (.ops false [⟨some 2,.box 2 6 (.t 0),none⟩,⟨some 4,.nils 4 2,none⟩,
 ⟨some 5,.mov (.k (.int 0)),none⟩] (some [1,2])) (.seq (.seq (.ops true [⟨some 15,.load 6 true (.t 2) [],none⟩,⟨some 16,.mov (.t 1),none⟩,
 ⟨some 17,.call 32 [.t 16,.k (.int 0),.k (.int 1)],none⟩,⟨some 18,.call 31 [.t 15,.t 17],none⟩,
 ⟨some 6,.mov (.t 18),none⟩] (some [1,2,6])) (.seq (.ops false [⟨some 19,.mov (.t 6),none⟩,
 ⟨some 20,.bin .neq (.t 19) (.k (.int 0)),none⟩] (some [1,2,6,20])) (.cond (.t 20) (.seq (.ops false [⟨some 21,.mov (.t 6),none⟩,⟨some 4,.nils 501 2,none⟩,
 ⟨some 5,.mov (.t 21),none⟩] (some [4,5])) .ret) .skip))) (.seq (.ops false [⟨some 23,.load 6 true (.t 2) [],none⟩,⟨some 24,.mov (.t 1),none⟩,
 ⟨some 25,.call 34 [.t 23,.t 24],none⟩,⟨some 22,.mov (.t 25),none⟩,⟨some 26,.ext (.t 22) 0,none⟩,⟨some 27,.ext (.t 22) 1,none⟩,⟨some 7,.mov (.t 26),none⟩,
 ⟨some 8,.mov (.t 27),none⟩] (some [2,7])) (.seq (.ops false [⟨some 9,.nils 9 2,none⟩] (some [2,7,9])) (.seq (.seq (.ops false [⟨some 28,.mov (.t 7),none⟩,
 ⟨some 29,.len (.t 28),none⟩,
 ⟨some 30,.mov (.k (.int 0)),none⟩] (some [2,7,9,28,29,30])) (.block 0 (.loop (.seq (.ops false [⟨some 31,.bin .lss (.t 30) (.t 29),none⟩] (some [2,7,9,28,29,30,31])) (.seq (.cond (.t 31) .skip (.exit 0)) (.seq (.block 1 (.seq (.ops false [⟨some 32,.mov (.t 30),none⟩,
 ⟨some 33,.idx 3 (.t 28) (.t 30),none⟩,⟨some 34,.load 3 true (.t 33) [],none⟩,⟨some 11,.alloc 11 [.int 0,.int 0,.sl 2 [] .full],none⟩,
 ⟨some 10,.mov (.t 32),none⟩,⟨none,.store 3 (.t 11) (.t 34) (some 11),none⟩] (some [2,7,9,10,11,28,29,30])) (.seq (.ops false [⟨some 35,.mov (.t 10),none⟩,
 ⟨some 36,.bin .add (.t 35) (.k (.int 1)),none⟩,
 ⟨some 12,.mov (.t 36),none⟩] (some [2,7,9,10,11,12,28,29,30])) (.block 2 (.loop (.seq (.seq (.ops false [⟨some 37,.mov (.t 12),none⟩,⟨some 38,.mov (.t 7),none⟩,
 ⟨some 39,.len (.t 38),none⟩,
 ⟨some 40,.bin .lss (.t 37) (.t 39),none⟩] (some [2,7,9,10,11,12,28,29,30,40])) (.cond (.t 40) .skip (.exit 2))) (.seq (.block 3 (.seq (.ops true [⟨some 44,.fld 3 (.t 2),none⟩,
 ⟨some 45,.load 1 false (.t 44) [],none⟩,⟨some 46,.load 3 true (.t 11) [],none⟩,⟨some 47,.mov (.t 7),none⟩,⟨some 48,.mov (.t 12),none⟩,
 ⟨some 49,.idx 3 (.t 47) (.t 48),none⟩,⟨some 50,.load 3 true (.t 49) [],none⟩,⟨some 51,.call 35 [.t 45,.t 46,.t 50],none⟩,⟨some 43,.mov (.t 51),none⟩,
 ⟨some 52,.ext (.t 43) 0,none⟩,⟨some 53,.ext (.t 43) 1,none⟩,⟨some 13,.mov (.t 52),none⟩,
 ⟨some 14,.mov (.t 53),none⟩] (some [2,7,9,10,11,12,14,28,29,30])) (.seq (.ops false [⟨some 54,.mov (.t 14),none⟩] (some [2,7,9,10,11,12,28,29,30,54])) (.cond (.t 54) (.ops false [⟨some 55,.mov (.t 9),none⟩,
 ⟨some 56,.mov (.t 10),none⟩,⟨some 57,.mov (.t 12),none⟩,⟨some 58,.build [.int 0,.int 0] [(0,1,.t 56),(1,1,.t 57)],none⟩,⟨some 59,.bslice 2 [.t 58],none⟩,
 ⟨some 60,.app 60 2 16 (.t 55) (.t 59),none⟩,⟨some 9,.mov (.t 60),none⟩] (some [2,7,9,10,11,12,28,29,30])) .skip)))) (.ops false [⟨some 41,.mov (.t 12),none⟩,
 ⟨some 42,.bin .add (.t 41) (.k (.int 1)),none⟩,
 ⟨some 12,.mov (.t 42),none⟩] (some [2,7,9,10,11,12,28,29,30]))))))))) (.ops false [⟨some 61,.bin .add (.t 30) (.k (.int 1)),none⟩,
 ⟨some 30,.mov (.t 61),none⟩] (some [2,7,9,28,29,30])))))))) (.seq (.ops false [⟨some 62,.mov (.t 9),none⟩,⟨some 4,.mov (.t 62),none⟩,
 ⟨some 5,.mov (.k (.int 0)),none⟩] (some [4,5])) .ret))))))
theorem m13 : fmatch Tryz.prog Tryz.f13 2 [.tmp 4, .tmp 5] v13 = true := by kernel_rfl
def v14 : VC :=
 (.seq (.ops false [⟨some 2,.box 2 4 (.t 0),none⟩,⟨some 3,.box 3 1 (.t 1),none⟩,⟨some 4,.alloc 4 [.int 0,.int 0],none⟩,
 ⟨some 5,.mov (.k (.int 0)),none⟩] (some [2,3,4])) (.seq (.ops true [⟨some 10,.load 4 true (.t 2) [6],none⟩,⟨some 11,.load 4 true (.t 2) [6],none⟩,
 ⟨some 12,.load 1 false (.t 3) [6],none⟩,⟨some 13,.call 25 [.t 11,.t 12],none⟩,⟨some 14,.call 36 [.t 10,.t 13],none⟩,⟨some 9,.mov (.t 14),none⟩,
 ⟨some 15,.ext (.t 9) 0,none⟩,⟨some 16,.ext (.t 9) 1,none⟩,⟨some 6,.alloc 6 [.int 0,.int 0,.sl 1 [] .full,.sl 2 [] .full,.und,.und],none⟩,
 ⟨none,.store 6 (.t 6) (.t 15) (some 6),none⟩,⟨some 7,.mov (.t 16),none⟩] (some [2,3,4,6,7])) (.seq (.seq (.ops false [⟨some 17,.mov (.t 7),none⟩,
 ⟨some 18,.bin .neq (.t 17) (.k (.int 0)),none⟩] (some [2,3,4,6,7,18])) (.cond (.t 18) (.seq (.ops false [⟨some 19,.build [.int 0,.int 0] [],none⟩,
 ⟨some 20,.mov (.t 7),none⟩,⟨none,.store 2 (.t 4) (.t 19) (some 4),none⟩,
 ⟨some 5,.mov (.t 20),none⟩] (some [4,5])) .ret) .skip)) (.seq (.ops false [⟨some 21,.mkf 37 [.t 6,.t 2,.t 3],none⟩,
 ⟨some 8,.mov (.t 21),none⟩] (some [4,8])) (.seq (.ops false [⟨some 22,.mov (.t 8),none⟩,⟨some 23,.callv (.t 22) [.k (.clo 41 [] [])],none⟩,
 ⟨some 24,.mov (.t 8),none⟩,⟨some 25,.callv (.t 24) [.k (.clo 42 [] [])],none⟩,⟨some 26,.build [.int 0,.int 0] [(0,1,.t 23),(1,1,.t 25)],none⟩,
 ⟨none,.store 2 (.t 4) (.t 26) (some 4),none⟩,⟨some 5,.mov (.k (.int 0)),none⟩] (some [4,5])) .ret)))))
theorem m14 : fmatch Tryz.prog Tryz.f14 2 [.cell 4 35, .tmp 5] v14 = true := by kernel_rfl
def v15 : VC :=
 (.seq (.ops false [⟨some 1,.box 1 4 (.t 0),none⟩,⟨some 2,.mov (.k (.bool false)),none⟩] (some [1])) (.seq (.seq (.ops false [⟨some 4,.fld 2 (.t 1),none⟩,
 ⟨some 5,.load 1 false (.t 4) [],none⟩,⟨some 6,.len (.t 5),none⟩,⟨some 7,.bin .gtr (.t 6) (.k (.int 40)),none⟩,⟨some 8,.mov (.t 7),none⟩,
 ⟨some 9,.fld 3 (.t 1),some (8,false)⟩,⟨some 10,.load 1 false (.t 9) [],some (8,false)⟩,⟨some 11,.len (.t 10),some (8,false)⟩,
 ⟨some 12,.bin .gtr (.t 11) (.k (.int 40)),some (8,false)⟩,
 ⟨some 13,.pick (.t 8) (.k (.bool true)) (.t 12),none⟩] (some [1,13])) (.cond (.t 13) (.seq (.ops false [⟨some 2,.mov (.k (.bool true)),none⟩] (some [2])) .ret) .skip)) (.seq (.seq (.ops false [⟨some 3,.mov (.k (.int 0)),none⟩] (some [1,3])) (.block 0 (.loop (.seq (.seq (.ops false [⟨some 14,.mov (.t 3),none⟩,
 ⟨some 15,.fld 2 (.t 1),none⟩,⟨some 16,.load 1 false (.t 15) [],none⟩,⟨some 17,.len (.t 16),none⟩,
 ⟨some 18,.bin .lss (.t 14) (.t 17),none⟩] (some [1,3,18])) (.cond (.t 18) .skip (.exit 0))) (.seq (.block 1 (.seq (.ops false [⟨some 21,.fld 2 (.t 1),none⟩,
 ⟨some 22,.load 1 false (.t 21) [],none⟩,⟨some 23,.mov (.t 3),none⟩,⟨some 24,.idx 1 (.t 22) (.t 23),none⟩,⟨some 25,.load 1 false (.t 24) [],none⟩,
 ⟨some 26,.len (.t 25),none⟩,
 ⟨some 27,.bin .gtr (.t 26) (.k (.int 40)),none⟩] (some [1,3,27])) (.cond (.t 27) (.seq (.ops false [⟨some 2,.mov (.k (.bool true)),none⟩] (some [2])) .ret) .skip))) (.ops false [⟨some 19,.mov (.t 3),none⟩,
 ⟨some 20,.bin .add (.t 19) (.k (.int 1)),none⟩,
 ⟨some 3,.mov (.t 20),none⟩] (some [1,3]))))))) (.seq (.ops false [⟨some 2,.mov (.k (.bool false)),none⟩] (some [2])) .ret))))
theorem m15 : fmatch Tryz.prog Tryz.f15 1 [.tmp 2] v15 = true := by kernel_rfl
def v16 : VC :=
 (.seq (.ops false [⟨some 6,.mov (.k (.bool false)),none⟩] (some [0,1,2])) (.seq (.ops false [⟨some 7,.mov (.t 0),none⟩,⟨some 8,.mov (.t 1),none⟩,
 ⟨some 9,.mov (.t 2),none⟩,⟨some 10,.call 6 [.t 7,.t 8,.t 9],none⟩,⟨some 6,.mov (.t 10),none⟩] (some [6])) .ret))
theorem m16 : fmatch Tryz.prog Tryz.f16 3 [.tmp 6] v16 = true := by kernel_rfl
def v17 : VC :=
 (.seq (.ops false [⟨some 2,.box 2 4 (.t 0),none⟩,⟨some 4,.mov (.k (.bool false)),none⟩] (some [1,2])) (.seq (.seq (.ops false [⟨some 6,.mov (.t 1),none⟩,
 ⟨some 7,.len (.t 6),none⟩,⟨some 8,.fld 1 (.t 2),none⟩,⟨some 9,.load 1 false (.t 8) [],none⟩,
 ⟨some 10,.bin .neq (.t 7) (.t 9),none⟩] (some [1,2,10])) (.cond (.t 10) (.seq (.ops false [⟨some 4,.mov (.k (.bool false)),none⟩] (some [4])) .ret) .skip)) (.seq (.seq (.ops false [⟨some 5,.mov (.k (.int 0)),none⟩] (some [1,2,5])) (.block 0 (.loop (.seq (.seq (.ops false [⟨some 11,.mov (.t 5),none⟩,
 ⟨some 12,.mov (.t 1),none⟩,⟨some 13,.len (.t 12),none⟩,
 ⟨some 14,.bin .lss (.t 11) (.t 13),none⟩] (some [1,2,5,14])) (.cond (.t 14) .skip (.exit 0))) (.seq (.block 1 (.seq (.ops true [⟨some 17,.mov (.t 1),none⟩,
 ⟨some 18,.mov (.t 5),none⟩,⟨some 19,.idx 2 (.t 17) (.t 18),none⟩,⟨some 20,.fld 1 (.t 19),none⟩,⟨some 21,.load 1 false (.t 20) [],none⟩,
 ⟨some 22,.fld 0 (.t 2),none⟩,⟨some 23,.load 1 false (.t 22) [],none⟩,⟨some 24,.bin .sub (.t 23) (.k (.int 1)),none⟩,
 ⟨some 25,.call 16 [.t 21,.k (.int 0),.t 24],none⟩,⟨some 26,.not (.t 25),none⟩,⟨some 27,.mov (.t 26),none⟩,⟨some 28,.mov (.t 1),some (27,false)⟩,
 ⟨some 29,.mov (.t 5),some (27,false)⟩,⟨some 30,.idx 2 (.t 28) (.t 29),some (27,false)⟩,⟨some 31,.fld 0 (.t 30),some (27,false)⟩,
 ⟨some 32,.load 1 false (.t 31) [],some (27,false)⟩,⟨some 33,.mov (.t 1),some (27,false)⟩,⟨some 34,.mov (.t 5),some (27,false)⟩,
 ⟨some 35,.idx 2 (.t 33) (.t 34),some (27,false)⟩,⟨some 36,.fld 1 (.t 35),some (27,false)⟩,⟨some 37,.load 1 false (.t 36) [],some (27,false)⟩,
 ⟨some 38,.call 16 [.t 32,.k (.int 0),.t 37],some (27,false)⟩,⟨some 39,.not (.t 38),some (27,false)⟩,
 ⟨some 40,.pick (.t 27) (.k (.bool true)) (.t 39),none⟩] (some [1,2,5,40])) (.cond (.t 40) (.seq (.ops false [⟨some 4,.mov (.k (.bool false)),none⟩] (some [4])) .ret) .skip))) (.ops false [⟨some 15,.mov (.t 5),none⟩,
 ⟨some 16,.bin .add (.t 15) (.k (.int 1)),none⟩,
 ⟨some 5,.mov (.t 16),none⟩] (some [1,2,5]))))))) (.seq (.ops false [⟨some 4,.mov (.k (.bool true)),none⟩] (some [4])) .ret))))
theorem m17 : fmatch Tryz.prog Tryz.f17 2 [.tmp 4] v17 = true := by kernel_rfl
def v19 : VC :=
 (.seq (.ops false [⟨some 0,.alloc 0 [.int 0,.int 0,.sl 1 [] .full,.sl 2 [] .full],none⟩,
 ⟨some 1,.alloc 1 [.int 0,.int 0,.sl 1 [] .full,.sl 2 [] .full],none⟩] (some [0,1])) (.seq (.ops false [⟨some 2,.build [.int 0,.int 0] [(0,1,.k (.int 1)),(1,1,.k (.int 1))],none⟩,
 ⟨some 3,.build [.int 0,.int 0] [(0,1,.k (.int 2)),(1,1,.k (.int 3))],none⟩,⟨some 4,.bslice 2 [.t 2,.t 3],none⟩,
 ⟨some 5,.build [.int 0,.int 0] [(1,1,.k (.int 1))],none⟩,⟨some 6,.build [.int 0,.int 0] [(0,1,.k (.int 5)),(1,1,.k (.int 5))],none⟩,
 ⟨some 7,.bslice 2 [.t 5,.t 6],none⟩,⟨some 8,.bslice 1 [.t 4,.t 7],none⟩,⟨some 9,.build [.int 0,.int 0] [(0,1,.k (.int 2)),(1,1,.k (.int 2))],none⟩,
 ⟨some 10,.build [.int 0,.int 0] [(0,1,.k (.int 7)),(1,1,.k (.int 8))],none⟩,⟨some 11,.bslice 2 [.t 9,.t 10],none⟩,
 ⟨some 12,.build [.int 0,.int 0,.sl 1 [] .sh,.sl 2 [] .sh] [(0,1,.k (.int 10)),(1,1,.k (.int 2)),(2,1,.t 8),(3,1,.t 11)],none⟩,
 ⟨none,.store 4 (.t 0) (.t 12) (some 0),none⟩] (some [0,1])) (.seq (.ops false [⟨some 13,.build [.int 0,.int 0] [(0,1,.k (.int 3)),(1,1,.k (.int 3))],none⟩,
 ⟨some 14,.bslice 2 [.t 13],none⟩,⟨some 15,.build [.int 0,.int 0] [(0,1,.k (.int 4)),(1,1,.k (.int 4))],none⟩,⟨some 16,.bslice 2 [.t 15],none⟩,
 ⟨some 17,.bslice 1 [.t 14,.t 16],none⟩,⟨some 18,.build [.int 0,.int 0] [(0,1,.k (.int 9)),(1,1,.k (.int 9))],none⟩,⟨some 19,.bslice 2 [.t 18],none⟩,
 ⟨some 20,.build [.int 0,.int 0,.sl 1 [] .sh,.sl 2 [] .sh] [(0,1,.k (.int 10)),(1,1,.k (.int 1)),(2,1,.t 17),(3,1,.t 19)],none⟩,
 ⟨none,.store 4 (.t 1) (.t 20) (some 1),none⟩] (some [0,1])) (.seq (.ops true [⟨some 21,.load 4 true (.t 0) [1],none⟩,⟨some 22,.load 4 true (.t 1) [0],none⟩,
 ⟨none,.store 4 (.t 0) (.t 21) (some 0),none⟩,⟨none,.store 4 (.t 1) (.t 22) (some 1),none⟩] (some [0,1])) .ret))))
theorem m19 : fmatch Tryz.prog Tryz.f19 0 [.cell 0 25, .cell 1 25] v19 = true := by kernel_rfl
def v21 : VC :=
 (.seq (.ops false [⟨some 2,.box 2 4 (.t 0),none⟩,⟨some 3,.box 3 1 (.t 1),none⟩,⟨some 4,.nils 4 1,none⟩,
 ⟨some 5,.mov (.k (.int 0)),none⟩] (some [2,3])) (.seq (.ops false [⟨some 6,.mov (.k (.int 1)),none⟩] (some [2,3,6])) (.seq (.seq (.ops false [⟨some 10,.fld 1 (.t 2),none⟩,
 ⟨some 11,.load 1 false (.t 10) [],none⟩,⟨some 12,.max (.k (.int 0)) (.t 11),none⟩,⟨some 13,.min (.k (.int 4)) (.t 12),none⟩,
 ⟨some 14,.mov (.k (.int 0)),none⟩] (some [2,3,6,13,14])) (.block 0 (.loop (.seq (.ops false [⟨some 15,.bin .lss (.t 14) (.t 13),none⟩] (some [2,3,6,13,14,15])) (.seq (.cond (.t 15) .skip (.exit 0)) (.seq (.block 1 (.ops false [⟨some 16,.mov (.t 6),none⟩,
 ⟨some 17,.fld 0 (.t 2),none⟩,⟨some 18,.load 1 false (.t 17) [],none⟩,⟨some 19,.max (.k (.int 1)) (.t 18),none⟩,⟨some 20,.min (.k (.int 10)) (.t 19),none⟩,
 ⟨some 21,.bin .mul (.t 16) (.t 20),none⟩,⟨some 6,.mov (.t 21),none⟩] (some [2,3,6,13,14]))) (.ops false [⟨some 22,.bin .add (.t 14) (.k (.int 1)),none⟩,
 ⟨some 14,.mov (.t 22),none⟩] (some [2,3,6,13,14])))))))) (.seq (.seq (.ops true [⟨some 23,.load 4 true (.t 2) [],none⟩,⟨some 24,.load 1 false (.t 3) [],none⟩,
 ⟨some 25,.mov (.t 6),none⟩,⟨some 26,.bin .sub (.t 25) (.k (.int 1)),none⟩,⟨some 27,.call 48 [.t 24,.k (.int 0),.t 26],none⟩,
 ⟨some 28,.call 24 [.t 23,.t 27],none⟩,⟨some 7,.mov (.t 28),none⟩] (some [2,3,7])) (.seq (.ops false [⟨some 29,.mov (.t 7),none⟩,
 ⟨some 30,.bin .neq (.t 29) (.k (.int 0)),none⟩] (some [2,3,7,30])) (.cond (.t 30) (.seq (.ops false [⟨some 31,.mov (.t 7),none⟩,⟨some 4,.nils 501 1,none⟩,
 ⟨some 5,.mov (.t 31),none⟩] (some [4,5])) .ret) .skip))) (.seq (.ops false [⟨some 32,.fld 1 (.t 2),none⟩,⟨some 33,.load 1 false (.t 32) [],none⟩,
 ⟨some 34,.makes 34 1 8 false [.int 0] (.t 33),none⟩,⟨some 8,.alloc 8 [.sl 1 [] .full],none⟩,
 ⟨none,.store 1 (.t 8) (.t 34) (some 8),none⟩] (some [2,3,8])) (.seq (.seq (.ops false [⟨some 35,.load 1 false (.t 8) [],none⟩,
 ⟨some 36,.calli 49 [.t 35],none⟩] (some [2,3,8,36])) (.block 2 (.range (.t 36) [37,38] (.ops false [⟨some 9,.mov (.t 37),none⟩] (some [2,3,8,9])) (.block 3 (.ops true [⟨some 39,.load 1 false (.t 8) [3,34],none⟩,
 ⟨some 40,.mov (.t 9),none⟩,⟨some 41,.load 1 false (.t 3) [34],none⟩,⟨some 42,.fld 0 (.t 2),none⟩,⟨some 43,.load 1 false (.t 42) [3,34],none⟩,
 ⟨some 44,.bin .rem (.t 41) (.t 43),none⟩,⟨some 45,.load 1 false (.t 3) [34],none⟩,⟨some 46,.fld 0 (.t 2),none⟩,⟨some 47,.load 1 false (.t 46) [3,34],none⟩,
 ⟨some 48,.bin .quo (.t 45) (.t 47),none⟩,⟨some 49,.idx 1 (.t 39) (.t 40),none⟩,⟨none,.store 1 (.t 49) (.t 44) (some 34),none⟩,
 ⟨none,.store 1 (.t 3) (.t 48) (some 3),none⟩] (some [])))))) (.seq (.ops false [⟨some 50,.load 1 false (.t 8) [],none⟩,⟨some 4,.mov (.t 50),none⟩,
 ⟨some 5,.mov (.k (.int 0)),none⟩] (some [4,5])) .ret)))))))
theorem m21 : fmatch Tryz.prog Tryz.f21 2 [.tmp 4, .tmp 5] v21 = true := by kernel_rfl
def v22 : VC :=
 (.seq (.ops false [⟨some 0,.alloc 0 [.int 0,.int 0,.int 0,.int 0,.sl 3 [] .full,.sl 3 [] .full],none⟩] (some [0])) (.seq (.ops false [⟨some 1,.build [.int 0,.int 0] [(0,1,.k (.int 1)),(1,1,.k (.int 1))],none⟩,
 ⟨some 2,.build [.int 0,.int 0] [(0,1,.k (.int 2)),(1,1,.k (.int 5))],none⟩,⟨some 3,.bslice 2 [.t 1,.t 2],none⟩,
 ⟨some 4,.build [.int 0,.int 0,.sl 2 [] .sh] [(0,1,.k (.int 1)),(2,1,.t 3)],none⟩,⟨some 5,.build [.int 0,.int 0] [],none⟩,
 ⟨some 6,.build [.int 0,.int 0] [(0,1,.k (.int 7)),(1,1,.k (.int 7))],none⟩,⟨some 7,.bslice 2 [.t 5,.t 6],none⟩,
 ⟨some 8,.build [.int 0,.int 0,.sl 2 [] .sh] [(0,1,.k (.int 4)),(1,1,.k (.int 1)),(2,1,.t 7)],none⟩,⟨some 9,.bslice 3 [.t 4,.t 8],none⟩,
 ⟨some 10,.build [.int 0,.int 0] [(0,1,.k (.int 1)),(1,1,.k (.int 1))],none⟩,⟨some 11,.build [.int 0,.int 0] [(0,1,.k (.int 4)),(1,1,.k (.int 9))],none⟩,
 ⟨some 12,.bslice 2 [.t 10,.t 11],none⟩,⟨some 13,.build [.int 0,.int 0,.sl 2 [] .sh] [(0,1,.k (.int 3)),(2,1,.t 12)],none⟩,
 ⟨some 14,.build [.int 0,.int 0] [],none⟩,⟨some 15,.build [.int 0,.int 0] [(0,1,.k (.int 7)),(1,1,.k (.int 7))],none⟩,⟨some 16,.bslice 2 [.t 14,.t 15],none⟩,
 ⟨some 17,.build [.int 0,.int 0,.sl 2 [] .sh] [(0,1,.k (.int 9)),(1,1,.k (.int 1)),(2,1,.t 16)],none⟩,⟨some 18,.build [.int 0,.int 0] [(1,1,.k (.int 1))],none⟩,
 ⟨some 19,.build [.int 0,.int 0] [(0,1,.k (.int 3)),(1,1,.k (.int 3))],none⟩,⟨some 20,.bslice 2 [.t 18,.t 19],none⟩,
 ⟨some 21,.build [.int 0,.int 0,.sl 2 [] .sh] [(0,1,.k (.int 2)),(2,1,.t 20)],none⟩,⟨some 22,.bslice 3 [.t 13,.t 17,.t 21],none⟩,
 ⟨some 23,.build [.int 0,.int 0,.int 0,.int 0,.sl 3 [] .sh,.sl 3 [] .sh] [(0,1,.k (.int 10)),(1,1,.k (.int 2)),(2,1,.k (.int 2)),(3,1,.k (.int 3)),(4,1,.t 9),(5,1,.t 22)],none⟩,
 ⟨none,.store 6 (.t 0) (.t 23) (some 0),none⟩] (some [0])) .ret))
theorem m22 : fmatch Tryz.prog Tryz.f22 0 [.cell 0 33] v22 = true := by kernel_rfl
def v23 : VC :=
 (.seq (.ops false [⟨some 4,.mov (.k (.bool false)),none⟩] (some [0,1])) (.seq (.seq (.ops false [⟨some 6,.mov (.t 0),none⟩,⟨some 7,.len (.t 6),none⟩,
 ⟨some 8,.mov (.t 1),none⟩,⟨some 9,.len (.t 8),none⟩,
 ⟨some 10,.bin .neq (.t 7) (.t 9),none⟩] (some [0,1,10])) (.cond (.t 10) (.seq (.ops false [⟨some 4,.mov (.k (.bool false)),none⟩] (some [4])) .ret) .skip)) (.seq (.seq (.ops false [⟨some 5,.mov (.k (.int 0)),none⟩] (some [0,1,5])) (.block 0 (.loop (.seq (.seq (.ops false [⟨some 11,.mov (.t 5),none⟩,
 ⟨some 12,.mov (.t 0),none⟩,⟨some 13,.len (.t 12),none⟩,
 ⟨some 14,.bin .lss (.t 11) (.t 13),none⟩] (some [0,1,5,14])) (.cond (.t 14) .skip (.exit 0))) (.seq (.block 1 (.seq (.ops true [⟨some 17,.mov (.t 0),none⟩,
 ⟨some 18,.mov (.t 5),none⟩,⟨some 19,.idx 1 (.t 17) (.t 18),none⟩,⟨some 20,.load 1 false (.t 19) [],none⟩,⟨some 21,.mov (.t 1),none⟩,⟨some 22,.mov (.t 5),none⟩,
 ⟨some 23,.idx 1 (.t 21) (.t 22),none⟩,⟨some 24,.load 1 false (.t 23) [],none⟩,
 ⟨some 25,.bin .neq (.t 20) (.t 24),none⟩] (some [0,1,5,25])) (.cond (.t 25) (.seq (.ops false [⟨some 4,.mov (.k (.bool false)),none⟩] (some [4])) .ret) .skip))) (.ops false [⟨some 15,.mov (.t 5),none⟩,
 ⟨some 16,.bin .add (.t 15) (.k (.int 1)),none⟩,
 ⟨some 5,.mov (.t 16),none⟩] (some [0,1,5]))))))) (.seq (.ops false [⟨some 4,.mov (.k (.bool true)),none⟩] (some [4])) .ret))))
theorem m23 : fmatch Tryz.prog Tryz.f23 2 [.tmp 4] v23 = true := by kernel_rfl
def v24 : VC :=
 (.seq (.ops false [⟨some 2,.box 2 4 (.t 0),none⟩,⟨some 4,.mov (.k (.int 0)),none⟩] (some [1,2])) (.seq (.seq (.ops false [⟨some 6,.load 4 true (.t 2) [],none⟩,
 ⟨some 7,.call 50 [.t 6],none⟩,⟨some 5,.mov (.t 7),none⟩] (some [1,5])) (.seq (.ops false [⟨some 8,.mov (.t 5),none⟩,
 ⟨some 9,.bin .neq (.t 8) (.k (.int 0)),none⟩] (some [1,5,9])) (.cond (.t 9) (.seq (.ops false [⟨some 10,.mov (.t 5),none⟩,
 ⟨some 4,.mov (.t 10),none⟩] (some [4])) .ret) .skip))) (.seq (.seq (.ops false [⟨some 11,.mov (.t 1),none⟩,
 ⟨some 12,.not (.t 11),none⟩] (some [12])) (.cond (.t 12) (.seq (.ops false [⟨some 4,.mov (.k (.int 1)),none⟩] (some [4])) .ret) .skip)) (.seq (.ops false [⟨some 4,.mov (.k (.int 0)),none⟩] (some [4])) .ret))))
theorem m24 : fmatch Tryz.prog Tryz.f24 2 [.tmp 4] v24 = true := by kernel_rfl
def v25 : VC :=
 (.seq (.ops false [⟨some 2,.box 2 4 (.t 0),none⟩,⟨some 4,.mov (.k (.bool false)),none⟩] (some [1,2])) (.seq (.ops false [⟨some 5,.mov (.t 1),none⟩,
 ⟨some 6,.fld 2 (.t 2),none⟩,⟨some 7,.load 1 false (.t 6) [],none⟩,⟨some 8,.len (.t 7),none⟩,⟨some 9,.call 48 [.t 5,.k (.int 0),.t 8],none⟩,
 ⟨some 4,.mov (.t 9),none⟩] (some [4])) .ret))
theorem m25 : fmatch Tryz.prog Tryz.f25 2 [.tmp 4] v25 = true := by kernel_rfl
def v26 : VC :=
 (.seq (.ops false [⟨some 4,.alloc 4 [.int 0,.int 0],none⟩] (some [0,1,4])) (.seq (.ops false [⟨some 5,.alloc 5 [.int 0,.int 0],none⟩] (some [0,1,4,5])) (.seq (.seq (.ops false [⟨some 8,.mov (.t 1),none⟩,
 ⟨some 9,.len (.t 8),none⟩,
 ⟨some 10,.mov (.k (.int 0)),none⟩] (some [0,4,5,8,9,10])) (.block 0 (.loop (.seq (.ops false [⟨some 11,.bin .lss (.t 10) (.t 9),none⟩] (some [0,4,5,8,9,10,11])) (.seq (.cond (.t 11) .skip (.exit 0)) (.seq (.block 1 (.seq (.ops false [⟨some 12,.idx 2 (.t 8) (.t 10),none⟩,
 ⟨some 13,.load 2 true (.t 12) [],none⟩,⟨some 7,.alloc 7 [.int 0,.int 0],none⟩,
 ⟨none,.store 2 (.t 7) (.t 13) (some 7),none⟩] (some [0,4,5,7,8,9,10])) (.ops true [⟨some 14,.mov (.t 0),none⟩,⟨some 15,.fld 0 (.t 5),none⟩,
 ⟨some 16,.load 1 false (.t 15) [],none⟩,⟨some 17,.fld 0 (.t 7),none⟩,⟨some 18,.load 1 false (.t 17) [5],none⟩,⟨some 19,.bslice 1 [.t 16,.t 18],none⟩,
 ⟨some 20,.call 39 [.t 14,.t 19],none⟩,⟨some 21,.mov (.t 0),none⟩,⟨some 22,.fld 1 (.t 5),none⟩,⟨some 23,.load 1 false (.t 22) [],none⟩,
 ⟨some 24,.fld 1 (.t 7),none⟩,⟨some 25,.load 1 false (.t 24) [5],none⟩,⟨some 26,.bslice 1 [.t 23,.t 25],none⟩,⟨some 27,.call 39 [.t 21,.t 26],none⟩,
 ⟨some 28,.build [.int 0,.int 0] [(0,1,.t 20),(1,1,.t 27)],none⟩,
 ⟨none,.store 2 (.t 5) (.t 28) (some 5),none⟩] (some [0,4,5,8,9,10])))) (.ops false [⟨some 29,.bin .add (.t 10) (.k (.int 1)),none⟩,
 ⟨some 10,.mov (.t 29),none⟩] (some [0,4,5,8,9,10])))))))) (.seq (.ops false [⟨some 30,.load 2 true (.t 5) [],none⟩,
 ⟨none,.store 2 (.t 4) (.t 30) (some 4),none⟩] (some [4])) .ret))))
theorem m26 : fmatch Tryz.prog Tryz.f26 2 [.cell 4 35] v26 = true := by kernel_rfl
def v27 : VC :=
 (.seq (.ops false [⟨some 1,.box 1 4 (.t 0),none⟩,⟨some 2,.nils 2 1,none⟩] (some [1])) (.seq (.ops true [⟨some 3,.fld 2 (.t 1),none⟩,
 ⟨some 4,.load 1 false (.t 3) [],none⟩,⟨some 5,.fld 2 (.t 1),none⟩,⟨some 6,.load 1 false (.t 5) [],none⟩,⟨some 7,.len (.t 6),none⟩,⟨some 8,.fld 2 (.t 1),none⟩,
 ⟨some 9,.load 1 false (.t 8) [],none⟩,⟨some 10,.len (.t 9),none⟩,⟨some 11,.sliceF 1 (.t 4) none (some (.t 7)) (some (.t 10)),none⟩,⟨some 12,.fld 3 (.t 1),none⟩,
 ⟨some 13,.load 1 false (.t 12) [],none⟩,⟨some 14,.bslice 1 [.t 13],none⟩,⟨some 15,.app 15 1 24 (.t 11) (.t 14),none⟩,
 ⟨some 2,.mov (.t 15),none⟩] (some [2])) .ret))
theorem m27 : fmatch Tryz.prog Tryz.f27 1 [.tmp 2] v27 = true := by kernel_rfl
def v28 : VC :=
 (.seq (.ops false [⟨some 1,.box 1 6 (.t 0),none⟩,⟨some 2,.mov (.k (.int 0)),none⟩] (some [1])) (.seq (.seq (.ops false [⟨some 5,.load 6 true (.t 1) [],none⟩,
 ⟨some 6,.call 51 [.t 5,.k (.sl 1 [] .full)],none⟩,⟨some 7,.call 50 [.t 6],none⟩,⟨some 8,.bin .neq (.t 7) (.k (.int 0)),none⟩,⟨some 9,.mov (.t 8),none⟩,
 ⟨some 10,.fld 2 (.t 1),some (9,false)⟩,⟨some 11,.load 1 false (.t 10) [],some (9,false)⟩,⟨some 12,.call 32 [.t 11,.k (.int 0),.k (.int 4)],some (9,false)⟩,
 ⟨some 13,.not (.t 12),some (9,false)⟩,⟨some 14,.pick (.t 9) (.k (.bool true)) (.t 13),none⟩,⟨some 15,.mov (.t 14),none⟩,⟨some 16,.fld 3 (.t 1),some (15,false)⟩,
 ⟨some 17,.load 1 false (.t 16) [],some (15,false)⟩,⟨some 18,.call 32 [.t 17,.k (.int 0),.k (.int 30)],some (15,false)⟩,⟨some 19,.not (.t 18),some (15,false)⟩,
 ⟨some 20,.pick (.t 15) (.k (.bool true)) (.t 19),none⟩] (some [1,20])) (.cond (.t 20) (.seq (.ops false [⟨some 2,.mov (.k (.int 130)),none⟩] (some [2])) .ret) .skip)) (.seq (.seq (.ops false [⟨some 21,.fld 4 (.t 1),none⟩,
 ⟨some 22,.load 1 false (.t 21) [],none⟩,⟨some 23,.fld 5 (.t 1),none⟩,⟨some 24,.load 1 false (.t 23) [],none⟩,
 ⟨some 25,.build [.sl 3 [] .sh,.sl 3 [] .sh] [(0,1,.t 22),(1,1,.t 24)],none⟩,
 ⟨some 26,.mov (.k (.int 0)),none⟩] (some [1,25,26])) (.block 0 (.loop (.seq (.ops false [⟨some 27,.bin .lss (.t 26) (.k (.int 2)),none⟩] (some [1,25,26,27])) (.seq (.cond (.t 27) .skip (.exit 0)) (.seq (.block 1 (.seq (.ops false [⟨some 28,.indexV 2 1 false (.t 25) (.t 26),none⟩,
 ⟨some 4,.mov (.t 28),none⟩] (some [1,4,25,26])) (.seq (.ops false [⟨some 29,.mov (.t 4),none⟩,⟨some 30,.len (.t 29),none⟩,
 ⟨some 31,.bin .gtr (.t 30) (.k (.int 5)),none⟩,⟨some 32,.mov (.t 31),none⟩,⟨some 33,.mov (.t 4),some (32,false)⟩,⟨some 34,.mkf 53 [.t 1],some (32,false)⟩,
 ⟨some 35,.call 52 [.t 33,.t 34],some (32,false)⟩,
 ⟨some 36,.pick (.t 32) (.k (.bool true)) (.t 35),none⟩] (some [1,25,26,36])) (.cond (.t 36) (.seq (.ops false [⟨some 2,.mov (.k (.int 130)),none⟩] (some [2])) .ret) .skip)))) (.ops false [⟨some 37,.bin .add (.t 26) (.k (.int 1)),none⟩,
 ⟨some 26,.mov (.t 37),none⟩] (some [1,25,26])))))))) (.seq (.ops false [⟨some 2,.mov (.k (.int 0)),none⟩] (some [2])) .ret))))
theorem m28 : fmatch Tryz.prog Tryz.f28 1 [.tmp 2] v28 = true := by kernel_rfl
def v29 : VC :=
 (.seq (.ops false [⟨some 1,.box 1 6 (.t 0),none⟩,⟨some 2,.mov (.k (.int 0)),none⟩] (some [1])) (.seq (.ops true [⟨some 3,.fld 4 (.t 1),none⟩,
 ⟨some 4,.load 1 false (.t 3) [],none⟩,⟨some 5,.len (.t 4),none⟩,⟨some 6,.fld 5 (.t 1),none⟩,⟨some 7,.load 1 false (.t 6) [],none⟩,⟨some 8,.len (.t 7),none⟩,
 ⟨some 9,.bin .add (.t 5) (.t 8),none⟩,⟨some 10,.load 6 true (.t 1) [],none⟩,⟨some 11,.call 30 [.t 10],none⟩,⟨some 12,.idx 1 (.t 11) (.k (.int 0)),none⟩,
 ⟨some 13,.load 1 false (.t 12) [],none⟩,⟨some 14,.len (.t 13),none⟩,⟨some 15,.bin .sub (.t 9) (.t 14),none⟩,⟨some 2,.mov (.t 15),none⟩] (some [2])) .ret))
theorem m29 : fmatch Tryz.prog Tryz.f29 1 [.tmp 2] v29 = true := by kernel_rfl
def v31 : VC :=
 (.seq (.ops false [⟨some 2,.box 2 6 (.t 0),none⟩,⟨some 4,.mov (.k (.int 0)),none⟩] (some [1,2])) (.seq (.seq (.ops false [⟨some 6,.load 6 true (.t 2) [],none⟩,
 ⟨some 7,.call 28 [.t 6],none⟩,⟨some 5,.mov (.t 7),none⟩] (some [1,5])) (.seq (.ops false [⟨some 8,.mov (.t 5),none⟩,
 ⟨some 9,.bin .neq (.t 8) (.k (.int 0)),none⟩] (some [1,5,9])) (.cond (.t 9) (.seq (.ops false [⟨some 10,.mov (.t 5),none⟩,
 ⟨some 4,.mov (.t 10),none⟩] (some [4])) .ret) .skip))) (.seq (.seq (.ops false [⟨some 11,.mov (.t 1),none⟩,
 ⟨some 12,.not (.t 11),none⟩] (some [12])) (.cond (.t 12) (.seq (.ops false [⟨some 4,.mov (.k (.int 1)),none⟩] (some [4])) .ret) .skip)) (.seq (.ops false [⟨some 4,.mov (.k (.int 0)),none⟩] (some [4])) .ret))))
theorem m31 : fmatch Tryz.prog Tryz.f31 2 [.tmp 4] v31 = true := by kernel_rfl
def v32 : VC :=
 (.seq (.ops false [⟨some 6,.mov (.k (.bool false)),none⟩] (some [0,1,2])) (.seq (.ops false [⟨some 7,.mov (.t 1),none⟩,⟨some 8,.mov (.t 0),none⟩,
 ⟨some 9,.bin .leq (.t 7) (.t 8),none⟩,⟨some 10,.mov (.t 9),none⟩,⟨some 11,.mov (.t 0),some (10,true)⟩,⟨some 12,.mov (.t 2),some (10,true)⟩,
 ⟨some 13,.bin .leq (.t 11) (.t 12),some (10,true)⟩,⟨some 14,.pick (.t 10) (.t 13) (.k (.bool false)),none⟩,⟨some 6,.mov (.t 14),none⟩] (some [6])) .ret))
theorem m32 : fmatch Tryz.prog Tryz.f32 3 [.tmp 6] v32 = true := by kernel_rfl
def v34 : VC :=
 (.seq (.ops false [⟨some 2,.box 2 6 (.t 0),none⟩,⟨some 4,.nils 4 3,none⟩,
 ⟨some 5,.mov (.k .und),none⟩] (some [1,2])) (.seq (.seq (.ops false [⟨some 6,.mov (.t 1),none⟩,
 ⟨some 7,.bin .eql (.t 6) (.k (.int 0)),none⟩] (some [2,7])) (.cond (.t 7) (.seq (.ops false [⟨some 8,.fld 4 (.t 2),none⟩,⟨some 9,.load 1 false (.t 8) [],none⟩,
 ⟨some 4,.mov (.t 9),none⟩,⟨some 5,.mov (.k (.clo 62 [] [])),none⟩] (some [4,5])) .ret) .skip)) (.seq (.ops false [⟨some 10,.fld 5 (.t 2),none⟩,
 ⟨some 11,.load 1 false (.t 10) [],none⟩,⟨some 4,.mov (.t 11),none⟩,⟨some 5,.mov (.k (.clo 63 [] [])),none⟩] (some [4,5])) .ret)))
theorem m34 : fmatch Tryz.prog Tryz.f34 2 [.tmp 4, .tmp 5] v34 = true := by kernel_rfl
def v35 : VC :=
 (.seq (.ops false [⟨some 4,.box 4 3 (.t 1),none⟩,⟨some 5,.box 5 3 (.t 2),none⟩,⟨some 6,.nils 6 2,none⟩,
 ⟨some 7,.mov (.k (.bool false)),none⟩] (some [0,4,5])) (.seq (.ops false [⟨some 14,.fld 1 (.t 4),none⟩,⟨some 15,.load 1 false (.t 14) [],none⟩,
 ⟨some 16,.fld 1 (.t 5),none⟩,⟨some 17,.load 1 false (.t 16) [],none⟩,⟨some 18,.bin .eql (.t 15) (.t 17),none⟩,⟨some 19,.mov (.t 18),none⟩,
 ⟨some 20,.load 3 true (.t 4) [],some (19,true)⟩,⟨some 21,.load 3 true (.t 5) [],some (19,true)⟩,⟨some 22,.call 64 [.t 20,.t 21],some (19,true)⟩,
 ⟨some 23,.mov (.t 0),some (19,true)⟩,⟨some 24,.bin .leq (.t 22) (.t 23),some (19,true)⟩,⟨some 25,.pick (.t 19) (.t 24) (.k (.bool false)),none⟩,
 ⟨some 8,.mov (.t 25),none⟩] (some [4,5,8])) (.seq (.ops false [⟨some 9,.nils 9 2,none⟩] (some [4,5,8,9])) (.seq (.seq (.ops false [⟨some 26,.fld 2 (.t 4),none⟩,
 ⟨some 27,.load 1 false (.t 26) [],none⟩,⟨some 28,.len (.t 27),none⟩,
 ⟨some 29,.mov (.k (.int 0)),none⟩] (some [5,8,9,27,28,29])) (.block 0 (.loop (.seq (.ops false [⟨some 30,.bin .lss (.t 29) (.t 28),none⟩] (some [5,8,9,27,28,29,30])) (.seq (.cond (.t 30) .skip (.exit 0)) (.seq (.block 1 (.seq (.ops false [⟨some 31,.mov (.t 29),none⟩,
 ⟨some 32,.idx 2 (.t 27) (.t 29),none⟩,⟨some 33,.load 2 true (.t 32) [],none⟩,⟨some 11,.alloc 11 [.int 0,.int 0],none⟩,⟨some 10,.mov (.t 31),none⟩,
 ⟨none,.store 2 (.t 11) (.t 33) (some 11),none⟩] (some [5,8,9,10,11,27,28,29])) (.seq (.ops false [⟨some 34,.fld 2 (.t 5),none⟩,
 ⟨some 35,.load 1 false (.t 34) [],none⟩,⟨some 36,.mov (.t 10),none⟩,⟨some 37,.idx 2 (.t 35) (.t 36),none⟩,⟨some 38,.load 2 true (.t 37) [],none⟩,
 ⟨some 12,.alloc 12 [.int 0,.int 0],none⟩,
 ⟨none,.store 2 (.t 12) (.t 38) (some 12),none⟩] (some [5,8,9,11,12,27,28,29])) (.seq (.ops false [⟨some 39,.fld 0 (.t 11),none⟩,
 ⟨some 40,.load 1 false (.t 39) [],none⟩,⟨some 41,.fld 0 (.t 12),none⟩,⟨some 42,.load 1 false (.t 41) [],none⟩,⟨some 43,.max (.t 40) (.t 42),none⟩,
 ⟨some 44,.fld 1 (.t 11),none⟩,⟨some 45,.load 1 false (.t 44) [],none⟩,⟨some 46,.fld 1 (.t 12),none⟩,⟨some 47,.load 1 false (.t 46) [],none⟩,
 ⟨some 48,.min (.t 45) (.t 47),none⟩,⟨some 49,.build [.int 0,.int 0] [(0,1,.t 43),(1,1,.t 48)],none⟩,⟨some 13,.alloc 13 [.int 0,.int 0],none⟩,
 ⟨none,.store 2 (.t 13) (.t 49) (some 13),none⟩] (some [5,8,9,13,27,28,29])) (.seq (.ops false [⟨some 50,.mov (.t 8),none⟩,⟨some 51,.mov (.t 50),none⟩,
 ⟨some 52,.fld 0 (.t 13),some (51,true)⟩,⟨some 53,.load 1 false (.t 52) [],some (51,true)⟩,⟨some 54,.fld 1 (.t 13),some (51,true)⟩,
 ⟨some 55,.load 1 false (.t 54) [],some (51,true)⟩,⟨some 56,.bin .leq (.t 53) (.t 55),some (51,true)⟩,⟨some 57,.pick (.t 51) (.t 56) (.k (.bool false)),none⟩,
 ⟨some 8,.mov (.t 57),none⟩] (some [5,8,9,13,27,28,29])) (.ops false [⟨some 58,.mov (.t 9),none⟩,⟨some 59,.load 2 true (.t 13) [],none⟩,
 ⟨some 60,.bslice 2 [.t 59],none⟩,⟨some 61,.app 61 2 16 (.t 58) (.t 60),none⟩,
 ⟨some 9,.mov (.t 61),none⟩] (some [5,8,9,27,28,29]))))))) (.ops false [⟨some 62,.bin .add (.t 29) (.k (.int 1)),none⟩,
 ⟨some 29,.mov (.t 62),none⟩] (some [5,8,9,27,28,29])))))))) (.seq (.ops false [⟨some 63,.mov (.t 9),none⟩,⟨some 64,.mov (.t 8),none⟩,⟨some 6,.mov (.t 63),none⟩,
 ⟨some 7,.mov (.t 64),none⟩] (some [6,7])) .ret)))))
theorem m35 : fmatch Tryz.prog Tryz.f35 3 [.tmp 6, .tmp 7] v35 = true := by kernel_rfl
def v36 : VC :=
 (.seq (.ops false [⟨some 2,.box 2 4 (.t 0),none⟩,⟨some 4,.alloc 4 [.int 0,.int 0,.sl 1 [] .full,.sl 2 [] .full,.und,.und],none⟩,
 ⟨some 5,.mov (.k (.int 0)),none⟩] (some [1,2,4])) (.seq (.seq (.ops false [⟨some 8,.load 4 true (.t 2) [],none⟩,⟨some 9,.mov (.t 1),none⟩,
 ⟨some 10,.call 24 [.t 8,.t 9],none⟩,⟨some 6,.mov (.t 10),none⟩] (some [2,4,6])) (.seq (.ops false [⟨some 11,.mov (.t 6),none⟩,
 ⟨some 12,.bin .neq (.t 11) (.k (.int 0)),none⟩] (some [2,4,6,12])) (.cond (.t 12) (.seq (.ops false [⟨some 13,.build [.int 0,.int 0,.sl 1 [] .sh,.sl 2 [] .sh,.und,.und] [],none⟩,
 ⟨some 14,.mov (.t 6),none⟩,⟨none,.store 6 (.t 4) (.t 13) (some 4),none⟩,
 ⟨some 5,.mov (.t 14),none⟩] (some [4,5])) .ret) .skip))) (.seq (.ops false [⟨some 15,.load 4 true (.t 2) [],none⟩,⟨some 16,.call 65 [.t 15],none⟩,
 ⟨some 7,.alloc 7 [.int 0,.int 0,.sl 1 [] .full,.sl 2 [] .full,.und,.und],none⟩,
 ⟨none,.store 6 (.t 7) (.t 16) (some 7),none⟩] (some [4,7])) (.seq (.seq (.ops false [⟨some 17,.load 6 true (.t 7) [],none⟩,⟨some 18,.call 66 [.t 17],none⟩,
 ⟨some 19,.bin .eql (.t 18) (.k (.int 0)),none⟩] (some [4,7,19])) (.cond (.t 19) (.seq (.ops false [⟨some 20,.build [.int 0,.int 0,.sl 1 [] .sh,.sl 2 [] .sh,.und,.und] [],none⟩,
 ⟨none,.store 6 (.t 4) (.t 20) (some 4),none⟩,
 ⟨some 5,.mov (.k (.int 3)),none⟩] (some [4,5])) .ret) .skip)) (.seq (.ops false [⟨some 21,.load 6 true (.t 7) [],none⟩,
 ⟨none,.store 6 (.t 4) (.t 21) (some 4),none⟩,⟨some 5,.mov (.k (.int 0)),none⟩] (some [4,5])) .ret)))))
theorem m36 : fmatch Tryz.prog Tryz.f36 2 [.cell 4 84, .tmp 5] v36 = true := by kernel_rfl
def v37 : VC :=
 (.seq (.ops false [⟨some 5,.mov (.k (.int 0)),none⟩] (some [0,1,2,3])) (.seq (.ops true [⟨some 10,.load 6 true (.t 1) [7],none⟩,
 ⟨some 7,.alloc 7 [.int 0,.int 0,.sl 1 [] .full,.sl 2 [] .full,.und,.und],none⟩,⟨some 6,.mov (.k (.int 0)),none⟩,
 ⟨none,.store 6 (.t 7) (.t 10) (some 7),none⟩] (some [0,2,3,6,7])) (.seq (.seq (.ops false [⟨some 11,.fld 1 (.t 2),none⟩,⟨some 12,.load 1 false (.t 11) [],none⟩,
 ⟨some 13,.mov (.k (.int 0)),none⟩] (some [0,2,3,6,7,12,13])) (.block 0 (.loop (.seq (.ops false [⟨some 14,.bin .lss (.t 13) (.t 12),none⟩] (some [0,2,3,6,7,12,13,14])) (.seq (.cond (.t 14) .skip (.exit 0)) (.seq (.block 1 (.seq (.ops false [⟨some 15,.mov (.t 13),none⟩,
 ⟨some 8,.mov (.t 15),none⟩] (some [0,2,3,6,7,8,12,13])) (.seq (.ops false [⟨some 16,.mov (.t 0),none⟩,⟨some 17,.load 6 true (.t 7) [],none⟩,
 ⟨some 18,.load 1 false (.t 3) [],none⟩,⟨some 19,.mov (.t 8),none⟩,⟨some 20,.call 38 [.t 17,.t 18,.t 19],none⟩,⟨some 21,.callv (.t 16) [.t 20],none⟩,
 ⟨some 9,.mov (.t 21),none⟩] (some [0,2,3,6,7,8,9,12,13])) (.ops true [⟨some 22,.fld 0 (.t 2),none⟩,⟨some 23,.load 1 false (.t 22) [7],none⟩,
 ⟨some 24,.mov (.t 6),none⟩,⟨some 25,.mov (.t 9),none⟩,⟨some 26,.bslice 1 [.t 24,.t 25],none⟩,⟨some 27,.call 39 [.t 23,.t 26],none⟩,
 ⟨some 28,.load 6 true (.t 7) [],none⟩,⟨some 29,.load 1 false (.t 3) [7],none⟩,⟨some 30,.mov (.t 8),none⟩,⟨some 31,.mov (.t 9),none⟩,
 ⟨some 32,.call 40 [.t 28,.t 29,.t 30,.t 31],none⟩,⟨some 6,.mov (.t 27),none⟩,
 ⟨none,.store 6 (.t 7) (.t 32) (some 7),none⟩] (some [0,2,3,6,7,12,13]))))) (.ops false [⟨some 33,.bin .add (.t 13) (.k (.int 1)),none⟩,
 ⟨some 13,.mov (.t 33),none⟩] (some [0,2,3,6,7,12,13])))))))) (.seq (.ops false [⟨some 34,.mov (.t 6),none⟩,⟨some 5,.mov (.t 34),none⟩] (some [5])) .ret))))
theorem m37 : fmatch Tryz.prog Tryz.f37 4 [.tmp 5] v37 = true := by kernel_rfl
def v38 : VC :=
 (.seq (.ops false [⟨some 3,.box 3 6 (.t 0),none⟩,⟨some 6,.alloc 6 [.int 0,.int 0],none⟩] (some [1,2,3,6])) (.seq (.ops false [⟨some 9,.fld 0 (.t 3),none⟩,
 ⟨some 10,.fld 0 (.t 9),none⟩,⟨some 11,.load 1 false (.t 10) [],none⟩,⟨some 12,.build [.int 0,.int 0] [(0,1,.t 11)],none⟩,⟨some 7,.alloc 7 [.int 0,.int 0],none⟩,
 ⟨none,.store 2 (.t 7) (.t 12) (some 7),none⟩] (some [1,2,3,6,7])) (.seq (.seq (.ops false [⟨some 13,.load 6 true (.t 3) [],none⟩,⟨some 14,.mov (.t 1),none⟩,
 ⟨some 15,.mov (.t 2),none⟩,
 ⟨some 16,.call 67 [.t 13,.t 14,.t 15],none⟩] (some [6,7,16])) (.block 0 (.range (.t 16) [17,18] (.ops false [⟨some 8,.mov (.t 17),none⟩] (some [7,8])) (.block 1 (.ops false [⟨some 19,.fld 0 (.t 7),none⟩,
 ⟨some 20,.load 1 false (.t 19) [],none⟩,⟨some 21,.mov (.t 8),none⟩,⟨some 22,.min (.t 20) (.t 21),none⟩,⟨some 23,.fld 1 (.t 7),none⟩,
 ⟨some 24,.load 1 false (.t 23) [],none⟩,⟨some 25,.mov (.t 8),none⟩,⟨some 26,.max (.t 24) (.t 25),none⟩,
 ⟨some 27,.build [.int 0,.int 0] [(0,1,.t 22),(1,1,.t 26)],none⟩,
 ⟨none,.store 2 (.t 7) (.t 27) (some 7),none⟩] (some [])))))) (.seq (.ops false [⟨some 28,.load 2 true (.t 7) [],none⟩,
 ⟨none,.store 2 (.t 6) (.t 28) (some 6),none⟩] (some [6])) .ret))))
theorem m38 : fmatch Tryz.prog Tryz.f38 3 [.cell 6 35] v38 = true := by kernel_rfl
def v39 : VC :=
 (.seq (.ops false [⟨some 4,.mov (.k (.int 0)),none⟩] (some [0,1])) (.seq (.ops false [⟨some 5,.mov (.k (.int 0)),none⟩] (some [0,1,5])) (.seq (.seq (.ops false [⟨some 8,.mov (.t 1),none⟩,
 ⟨some 9,.len (.t 8),none⟩,
 ⟨some 10,.mov (.k (.int 0)),none⟩] (some [0,5,8,9,10])) (.block 0 (.loop (.seq (.ops false [⟨some 11,.bin .lss (.t 10) (.t 9),none⟩] (some [0,5,8,9,10,11])) (.seq (.cond (.t 11) .skip (.exit 0)) (.seq (.block 1 (.seq (.ops false [⟨some 12,.idx 1 (.t 8) (.t 10),none⟩,
 ⟨some 13,.load 1 false (.t 12) [],none⟩,⟨some 7,.mov (.t 13),none⟩] (some [0,5,7,8,9,10])) (.ops false [⟨some 14,.mov (.t 5),none⟩,⟨some 15,.mov (.t 0),none⟩,
 ⟨some 16,.bin .mul (.t 14) (.t 15),none⟩,⟨some 17,.mov (.t 7),none⟩,⟨some 18,.bin .add (.t 16) (.t 17),none⟩,
 ⟨some 5,.mov (.t 18),none⟩] (some [0,5,8,9,10])))) (.ops false [⟨some 19,.bin .add (.t 10) (.k (.int 1)),none⟩,
 ⟨some 10,.mov (.t 19),none⟩] (some [0,5,8,9,10])))))))) (.seq (.ops false [⟨some 20,.mov (.t 5),none⟩,⟨some 4,.mov (.t 20),none⟩] (some [4])) .ret))))
theorem m39 : fmatch Tryz.prog Tryz.f39 2 [.tmp 4] v39 = true := by kernel_rfl
def v40 : VC :=
 (.seq (.ops false [⟨some 4,.box 4 6 (.t 0),none⟩,⟨some 5,.box 5 1 (.t 1),none⟩,⟨some 6,.box 6 1 (.t 2),none⟩,⟨some 7,.box 7 1 (.t 3),none⟩,
 ⟨some 8,.alloc 8 [.int 0,.int 0,.sl 1 [] .full,.sl 2 [] .full,.und,.und],none⟩] (some [4,5,6,7,8])) (.seq (.ops false [⟨some 10,.fld 4 (.t 4),none⟩,
 ⟨some 11,.load 1 false (.t 10) [],none⟩,⟨some 9,.alloc 9 [.und],none⟩,
 ⟨none,.store 1 (.t 9) (.t 11) (some 9),none⟩] (some [4,5,6,7,8,9])) (.seq (.ops false [⟨some 12,.mkf 68 [.t 9,.t 5,.t 6,.t 7],none⟩,
 ⟨some 13,.fld 4 (.t 4),none⟩,⟨none,.store 1 (.t 13) (.t 12) (some 4),none⟩] (some [4,8])) (.seq (.ops false [⟨some 14,.load 6 true (.t 4) [],none⟩,
 ⟨none,.store 6 (.t 8) (.t 14) (some 8),none⟩] (some [8])) .ret))))
theorem m40 : fmatch Tryz.prog Tryz.f40 4 [.cell 8 84] v40 = true := by kernel_rfl
def v41 : VC :=
 (.seq (.ops false [⟨some 1,.box 1 2 (.t 0),none⟩,⟨some 2,.mov (.k (.int 0)),none⟩] (some [1])) (.seq (.ops false [⟨some 3,.fld 0 (.t 1),none⟩,
 ⟨some 4,.load 1 false (.t 3) [],none⟩,⟨some 2,.mov (.t 4),none⟩] (some [2])) .ret))
theorem m41 : fmatch Tryz.prog Tryz.f41 1 [.tmp 2] v41 = true := by kernel_rfl
def v42 : VC :=
 (.seq (.ops false [⟨some 1,.box 1 2 (.t 0),none⟩,⟨some 2,.mov (.k (.int 0)),none⟩] (some [1])) (.seq (.ops false [⟨some 3,.fld 1 (.t 1),none⟩,
 ⟨some 4,.load 1 false (.t 3) [],none⟩,⟨some 2,.mov (.t 4),none⟩] (some [2])) .ret))
theorem m42 : fmatch Tryz.prog Tryz.f42 1 [.tmp 2] v42 = true := by kernel_rfl
def v48 : VC :=
 (.seq (.ops false [⟨some 6,.mov (.k (.bool false)),none⟩] (some [0,1,2])) (.seq (.ops false [⟨some 7,.mov (.t 1),none⟩,⟨some 8,.mov (.t 0),none⟩,
 ⟨some 9,.bin .leq (.t 7) (.t 8),none⟩,⟨some 10,.mov (.t 9),none⟩,⟨some 11,.mov (.t 0),some (10,true)⟩,⟨some 12,.mov (.t 2),some (10,true)⟩,
 ⟨some 13,.bin .leq (.t 11) (.t 12),some (10,true)⟩,⟨some 14,.pick (.t 10) (.t 13) (.k (.bool false)),none⟩,⟨some 6,.mov (.t 14),none⟩] (some [6])) .ret))
theorem m48 : fmatch Tryz.prog Tryz.f48 3 [.tmp 6] v48 = true := by kernel_rfl
def v49 : VC :=
 (.seq (.ops false [⟨some 1,.box 3001 1 (.t 0),none⟩,⟨some 2,.mov (.k .und),none⟩] (some [1])) (.seq (.ops false [⟨some 3,.mkw 73 [.t 1],none⟩,
 ⟨some 2,.mov (.t 3),none⟩] (some [2])) .ret))
theorem m49 : fmatch Tryz.prog Tryz.f49 1 [.tmp 2] v49 = true := by kernel_rfl
def v50 : VC :=
 (.seq (.ops false [⟨some 1,.box 1 4 (.t 0),none⟩,⟨some 2,.mov (.k (.int 0)),none⟩] (some [1])) (.seq (.ops false [⟨some 4,.mkf 74 [.t 1],none⟩,
 ⟨some 3,.mov (.t 4),none⟩] (some [1,3])) (.seq (.seq (.ops false [⟨some 5,.fld 0 (.t 1),none⟩,⟨some 6,.load 1 false (.t 5) [],none⟩,
 ⟨some 7,.call 48 [.t 6,.k (.int 2),.k (.int 10)],none⟩,⟨some 8,.not (.t 7),none⟩,⟨some 9,.mov (.t 8),none⟩,⟨some 10,.fld 1 (.t 1),some (9,false)⟩,
 ⟨some 11,.load 1 false (.t 10) [],some (9,false)⟩,⟨some 12,.call 48 [.t 11,.k (.int 1),.k (.int 4)],some (9,false)⟩,⟨some 13,.not (.t 12),some (9,false)⟩,
 ⟨some 14,.pick (.t 9) (.k (.bool true)) (.t 13),none⟩,⟨some 15,.mov (.t 14),none⟩,⟨some 16,.fld 2 (.t 1),some (15,false)⟩,
 ⟨some 17,.load 1 false (.t 16) [],some (15,false)⟩,⟨some 18,.len (.t 17),some (15,false)⟩,⟨some 19,.bin .gtr (.t 18) (.k (.int 4)),some (15,false)⟩,
 ⟨some 20,.pick (.t 15) (.k (.bool true)) (.t 19),none⟩,⟨some 21,.mov (.t 20),none⟩,⟨some 22,.fld 2 (.t 1),some (21,false)⟩,
 ⟨some 23,.load 1 false (.t 22) [],some (21,false)⟩,⟨some 24,.mov (.t 3),some (21,false)⟩,⟨some 25,.call 76 [.t 23,.t 24],some (21,false)⟩,
 ⟨some 26,.pick (.t 21) (.k (.bool true)) (.t 25),none⟩,⟨some 27,.mov (.t 26),none⟩,⟨some 28,.mov (.t 3),some (27,false)⟩,
 ⟨some 29,.fld 3 (.t 1),some (27,false)⟩,⟨some 30,.load 1 false (.t 29) [],some (27,false)⟩,⟨some 31,.callv (.t 28) [.t 30],some (27,false)⟩,
 ⟨some 32,.pick (.t 27) (.k (.bool true)) (.t 31),none⟩] (some [32])) (.cond (.t 32) (.seq (.ops false [⟨some 2,.mov (.k (.int 110)),none⟩] (some [2])) .ret) .skip)) (.seq (.ops false [⟨some 2,.mov (.k (.int 0)),none⟩] (some [2])) .ret))))
theorem m50 : fmatch Tryz.prog Tryz.f50 1 [.tmp 2] v50 = true := by kernel_rfl
def v51 : VC :=
 (.seq (.ops false [⟨some 2,.box 2 6 (.t 0),none⟩,
 ⟨some 4,.alloc 4 [.int 0,.int 0,.sl 1 [] .full,.sl 2 [] .full],none⟩] (some [1,2,4])) (.seq (.ops true [⟨some 5,.fld 0 (.t 2),none⟩,
 ⟨some 6,.load 1 false (.t 5) [4,14],none⟩,⟨some 7,.fld 1 (.t 2),none⟩,⟨some 8,.load 1 false (.t 7) [4,14],none⟩,⟨some 9,.mov (.t 1),none⟩,
 ⟨some 10,.fld 1 (.t 2),none⟩,⟨some 11,.load 1 false (.t 10) [4,14],none⟩,⟨some 12,.max (.k (.int 0)) (.t 11),none⟩,⟨some 13,.min (.t 12) (.k (.int 4)),none⟩,
 ⟨some 14,.makes 14 2 16 true [.int 0,.int 0] (.t 13),none⟩,
 ⟨some 15,.buildW [.int 0,.int 0,.sl 1 [] .sh,.sl 2 [] .sh] [(0,1,.t 6),(1,1,.t 8),(2,1,.t 9),(3,1,.t 14)],none⟩,
 ⟨none,.store 4 (.t 4) (.t 15) (some 4),none⟩] (some [4])) .ret))
theorem m51 : fmatch Tryz.prog Tryz.f51 2 [.cell 4 25] v51 = true := by kernel_rfl
def v52 : VC :=
 (.seq (.ops false [⟨some 4,.mov (.k (.bool false)),none⟩] (some [0,1])) (.seq (.ops false [⟨some 5,.mov (.t 0),none⟩,⟨some 6,.mov (.t 1),none⟩,
 ⟨some 7,.call 77 [.t 5,.t 6],none⟩,⟨some 8,.bin .geq (.t 7) (.k (.int 0)),none⟩,⟨some 4,.mov (.t 8),none⟩] (some [4])) .ret))
theorem m52 : fmatch Tryz.prog Tryz.f52 2 [.tmp 4] v52 = true := by kernel_rfl
def v53 : VC :=
 (.seq (.ops false [⟨some 2,.box 2 3 (.t 0),none⟩,⟨some 3,.mov (.k (.bool false)),none⟩] (some [1,2])) (.seq (.ops false [⟨some 4,.load 6 true (.t 1) [],none⟩,
 ⟨some 5,.load 3 true (.t 2) [],none⟩,⟨some 6,.call 54 [.t 4,.t 5],none⟩,⟨some 7,.not (.t 6),none⟩,⟨some 3,.mov (.t 7),none⟩] (some [3])) .ret))
theorem m53 : fmatch Tryz.prog Tryz.f53 2 [.tmp 3] v53 = true := by kernel_rfl
def v54 : VC :=
 (.seq (.ops false [⟨some 2,.box 2 6 (.t 0),none⟩,⟨some 3,.box 3 3 (.t 1),none⟩,
 ⟨some 4,.mov (.k (.bool false)),none⟩] (some [2,3])) (.seq (.ops false [⟨some 5,.fld 0 (.t 3),none⟩,⟨some 6,.load 1 false (.t 5) [],none⟩,
 ⟨some 7,.call 32 [.t 6,.k (.int 0),.k (.int 99)],none⟩,⟨some 8,.mov (.t 7),none⟩,⟨some 9,.fld 1 (.t 3),some (8,true)⟩,
 ⟨some 10,.load 1 false (.t 9) [],some (8,true)⟩,⟨some 11,.fld 2 (.t 2),some (8,true)⟩,⟨some 12,.load 1 false (.t 11) [],some (8,true)⟩,
 ⟨some 13,.bin .sub (.t 12) (.k (.int 1)),some (8,true)⟩,⟨some 14,.call 32 [.t 10,.k (.int 0),.t 13],some (8,true)⟩,
 ⟨some 15,.pick (.t 8) (.t 14) (.k (.bool false)),none⟩,⟨some 16,.mov (.t 15),none⟩,⟨some 17,.load 6 true (.t 2) [],some (16,true)⟩,
 ⟨some 18,.fld 2 (.t 3),some (16,true)⟩,⟨some 19,.load 1 false (.t 18) [],some (16,true)⟩,⟨some 20,.bslice 1 [.t 19],some (16,true)⟩,
 ⟨some 21,.call 51 [.t 17,.t 20],some (16,true)⟩,⟨some 22,.call 50 [.t 21],some (16,true)⟩,⟨some 23,.bin .eql (.t 22) (.k (.int 0)),some (16,true)⟩,
 ⟨some 24,.pick (.t 16) (.t 23) (.k (.bool false)),none⟩,⟨some 4,.mov (.t 24),none⟩] (some [4])) .ret))
theorem m54 : fmatch Tryz.prog Tryz.f54 2 [.tmp 4] v54 = true := by kernel_rfl
def v57 : VC :=
 (.seq (.ops false [⟨some 2,.box 2 6 (.t 0),none⟩,
 ⟨some 4,.alloc 4 [.int 0,.int 0],none⟩] (some [1,2,4])) (.seq (.ops false [⟨some 8,.load 6 true (.t 2) [],none⟩,⟨some 9,.mov (.t 1),none⟩,
 ⟨some 10,.bslice 1 [.t 9],none⟩,⟨some 11,.call 51 [.t 8,.t 10],none⟩,⟨some 12,.call 8 [.t 11,.k (.int 0)],none⟩,⟨some 7,.mov (.t 12),none⟩,
 ⟨some 13,.ext (.t 7) 0,none⟩,⟨some 14,.ext (.t 7) 1,none⟩,⟨some 5,.alloc 5 [.int 0,.int 0],none⟩,⟨none,.store 2 (.t 5) (.t 13) (some 5),none⟩,
 ⟨some 6,.mov (.t 14),none⟩] (some [4,5])) (.seq (.ops false [⟨some 15,.load 2 true (.t 5) [],none⟩,
 ⟨none,.store 2 (.t 4) (.t 15) (some 4),none⟩] (some [4])) .ret)))
theorem m57 : fmatch Tryz.prog Tryz.f57 2 [.cell 4 35] v57 = true := by kernel_rfl
def v58 : VC :=
 (.seq (.ops false [⟨some 4,.mov (.k (.bool false)),none⟩] (some [0,1])) (.seq (.ops false [⟨some 5,.mov (.t 0),none⟩,⟨some 6,.mov (.t 1),none⟩,
 ⟨some 7,.call 60 [.t 5,.t 6],none⟩,⟨some 8,.bin .geq (.t 7) (.k (.int 0)),none⟩,⟨some 4,.mov (.t 8),none⟩] (some [4])) .ret))
theorem m58 : fmatch Tryz.prog Tryz.f58 2 [.tmp 4] v58 = true := by kernel_rfl
def v59 : VC :=
 (.seq (.ops false [⟨some 2,.box 2 2 (.t 0),none⟩,⟨some 3,.mov (.k (.bool false)),none⟩] (some [1,2])) (.seq (.ops false [⟨some 4,.fld 0 (.t 2),none⟩,
 ⟨some 5,.load 1 false (.t 4) [],none⟩,⟨some 6,.load 1 false (.t 1) [],none⟩,⟨some 7,.bin .eql (.t 5) (.t 6),none⟩,⟨some 3,.mov (.t 7),none⟩] (some [3])) .ret))
theorem m59 : fmatch Tryz.prog Tryz.f59 2 [.tmp 3] v59 = true := by kernel_rfl
def v60 : VC :=
 (.seq (.ops false [⟨some 4,.mov (.k (.int 0)),none⟩] (some [0,1])) (.seq (.seq (.ops false [⟨some 6,.mov (.t 0),none⟩,⟨some 7,.len (.t 6),none⟩,
 ⟨some 8,.mov (.k (.int 0)),none⟩] (some [0,1,7,8])) (.block 0 (.loop (.seq (.ops false [⟨some 9,.bin .lss (.t 8) (.t 7),none⟩] (some [0,1,7,8,9])) (.seq (.cond (.t 9) .skip (.exit 0)) (.seq (.block 1 (.seq (.ops false [⟨some 10,.mov (.t 8),none⟩,
 ⟨some 5,.mov (.t 10),none⟩] (some [0,1,5,7,8])) (.seq (.ops false [⟨some 11,.mov (.t 1),none⟩,⟨some 12,.mov (.t 0),none⟩,⟨some 13,.mov (.t 5),none⟩,
 ⟨some 14,.idx 2 (.t 12) (.t 13),none⟩,⟨some 15,.load 2 true (.t 14) [],none⟩,
 ⟨some 16,.callv (.t 11) [.t 15],none⟩] (some [0,1,5,7,8,16])) (.cond (.t 16) (.seq (.ops false [⟨some 17,.mov (.t 5),none⟩,
 ⟨some 4,.mov (.t 17),none⟩] (some [4])) .ret) .skip)))) (.ops false [⟨some 18,.bin .add (.t 8) (.k (.int 1)),none⟩,
 ⟨some 8,.mov (.t 18),none⟩] (some [0,1,7,8])))))))) (.seq (.ops false [⟨some 4,.mov (.k (.int (-1))),none⟩] (some [4])) .ret)))
theorem m60 : fmatch Tryz.prog Tryz.f60 2 [.tmp 4] v60 = true := by kernel_rfl
def v61 : VC :=
 (.seq (.ops false [⟨some 2,.box 2 2 (.t 0),none⟩,⟨some 3,.mov (.k (.bool false)),none⟩] (some [1,2])) (.seq (.ops false [⟨some 4,.fld 1 (.t 2),none⟩,
 ⟨some 5,.load 1 false (.t 4) [],none⟩,⟨some 6,.load 1 false (.t 1) [],none⟩,⟨some 7,.bin .eql (.t 5) (.t 6),none⟩,⟨some 3,.mov (.t 7),none⟩] (some [3])) .ret))
theorem m61 : fmatch Tryz.prog Tryz.f61 2 [.tmp 3] v61 = true := by kernel_rfl
def v64 : VC :=
 (.seq (.ops false [⟨some 2,.box 2 3 (.t 0),none⟩,⟨some 3,.box 3 3 (.t 1),none⟩,
 ⟨some 4,.mov (.k (.int 0)),none⟩] (some [2,3])) (.seq (.ops false [⟨some 5,.fld 0 (.t 2),none⟩,⟨some 6,.load 1 false (.t 5) [],none⟩,
 ⟨some 7,.fld 0 (.t 3),none⟩,⟨some 8,.load 1 false (.t 7) [],none⟩,⟨some 9,.bin .sub (.t 6) (.t 8),none⟩,⟨some 10,.fld 0 (.t 3),none⟩,
 ⟨some 11,.load 1 false (.t 10) [],none⟩,⟨some 12,.fld 0 (.t 2),none⟩,⟨some 13,.load 1 false (.t 12) [],none⟩,⟨some 14,.bin .sub (.t 11) (.t 13),none⟩,
 ⟨some 15,.max (.t 9) (.t 14),none⟩,⟨some 4,.mov (.t 15),none⟩] (some [4])) .ret))
theorem m64 : fmatch Tryz.prog Tryz.f64 2 [.tmp 4] v64 = true := by kernel_rfl
def v65 : VC :=
 (.seq (.ops false [⟨some 1,.box 1 4 (.t 0),none⟩,
 ⟨some 2,.alloc 2 [.int 0,.int 0,.sl 1 [] .full,.sl 2 [] .full,.und,.und],none⟩] (some [1,2])) (.seq (.ops false [⟨some 3,.load 4 true (.t 1) [],none⟩,
 ⟨some 4,.build [.int 0,.int 0,.sl 1 [] .sh,.sl 2 [] .sh,.und,.und] [(0,4,.t 3),(4,1,.k (.clo 80 [] [])),(5,1,.k (.clo 81 [] []))],none⟩,
 ⟨none,.store 6 (.t 2) (.t 4) (some 2),none⟩] (some [2])) .ret))
theorem m65 : fmatch Tryz.prog Tryz.f65 1 [.cell 2 84] v65 = true := by kernel_rfl
def v66 : VC :=
 (.seq (.ops false [⟨some 1,.box 1 6 (.t 0),none⟩,⟨some 2,.mov (.k (.int 0)),none⟩] (some [1])) (.seq (.ops false [⟨some 3,.load 6 true (.t 1) [],none⟩,
 ⟨some 4,.call 82 [.t 3],none⟩,⟨some 5,.fieldV 1 1 false (.t 4),none⟩,⟨some 2,.mov (.t 5),none⟩] (some [2])) .ret))
theorem m66 : fmatch Tryz.prog Tryz.f66 1 [.tmp 2] v66 = true := by kernel_rfl
def v67 : VC :=
 (.seq (.ops false [⟨some 3,.box 3 6 (.t 0),none⟩,⟨some 4,.box 4 1 (.t 1),none⟩,⟨some 5,.box 5 1 (.t 2),none⟩,
 ⟨some 6,.mov (.k .und),none⟩] (some [3,4,5])) (.seq (.ops false [⟨some 7,.mkf 83 [.t 3,.t 4,.t 5],none⟩,⟨some 6,.mov (.t 7),none⟩] (some [6])) .ret))
theorem m67 : fmatch Tryz.prog Tryz.f67 3 [.tmp 6] v67 = true := by kernel_rfl
def v68 : VC :=
 (.seq (.ops false [⟨some 10,.mov (.k (.bool false)),none⟩] (some [0,1,2,3,4,5,6])) (.seq (.ops false [⟨some 11,.load 1 false (.t 3) [],none⟩,
 ⟨some 12,.mov (.t 0),none⟩,⟨some 13,.mov (.t 1),none⟩,⟨some 14,.mov (.t 2),none⟩,⟨some 15,.callv (.t 11) [.t 12,.t 13,.t 14],none⟩,⟨some 16,.mov (.t 15),none⟩,
 ⟨some 17,.mov (.t 0),some (16,true)⟩,⟨some 18,.load 1 false (.t 4) [],some (16,true)⟩,⟨some 19,.bin .neq (.t 17) (.t 18),some (16,true)⟩,
 ⟨some 20,.mov (.t 19),some (16,true)⟩,⟨some 21,.mov (.t 1),some (20,false)⟩,⟨some 22,.load 1 false (.t 5) [],some (20,false)⟩,
 ⟨some 23,.bin .neq (.t 21) (.t 22),some (20,false)⟩,⟨some 24,.pick (.t 20) (.k (.bool true)) (.t 23),some (16,true)⟩,⟨some 25,.mov (.t 24),some (16,true)⟩,
 ⟨some 26,.mov (.t 2),some (25,false)⟩,⟨some 27,.load 1 false (.t 6) [],some (25,false)⟩,⟨some 28,.bin .eql (.t 26) (.t 27),some (25,false)⟩,
 ⟨some 29,.pick (.t 25) (.k (.bool true)) (.t 28),some (16,true)⟩,⟨some 30,.pick (.t 16) (.t 29) (.k (.bool false)),none⟩,
 ⟨some 10,.mov (.t 30),none⟩] (some [10])) .ret))
theorem m68 : fmatch Tryz.prog Tryz.f68 7 [.tmp 10] v68 = true := by kernel_rfl
def v73 : VC :=
 (.seq (.ops false [⟨some 4,.load 1 false (.t 1) [],none⟩,⟨some 5,.len (.t 4),none⟩,⟨some 6,.bin .sub (.t 5) (.k (.int 1)),none⟩,
 ⟨some 3,.mov (.t 6),none⟩] (some [0,1,3])) (.block 0 (.loop (.seq (.seq (.ops false [⟨some 7,.mov (.t 3),none⟩,
 ⟨some 8,.bin .geq (.t 7) (.k (.int 0)),none⟩] (some [0,1,3,8])) (.cond (.t 8) .skip (.exit 0))) (.seq (.block 1 (.seq (.ops false [⟨some 11,.mov (.t 0),none⟩,
 ⟨some 12,.mov (.t 3),none⟩,⟨some 13,.load 1 false (.t 1) [],none⟩,⟨some 14,.mov (.t 3),none⟩,⟨some 15,.idx 1 (.t 13) (.t 14),none⟩,
 ⟨some 16,.load 1 false (.t 15) [],none⟩,⟨some 17,.yield (.t 11) [.t 12,.t 16],none⟩,
 ⟨some 18,.not (.t 17),none⟩] (some [0,1,3,18])) (.cond (.t 18) .ret .skip))) (.ops false [⟨some 9,.mov (.t 3),none⟩,
 ⟨some 10,.bin .sub (.t 9) (.k (.int 1)),none⟩,⟨some 3,.mov (.t 10),none⟩] (some [0,1,3])))))))
theorem m73 : fmatch Tryz.prog Tryz.f73 2 [] v73 = true := by kernel_rfl
def v74 : VC :=
 (.seq (.ops false [⟨some 3,.mov (.k (.bool false)),none⟩] (some [0,1])) (.seq (.ops false [⟨some 4,.load 4 true (.t 1) [],none⟩,⟨some 5,.mov (.t 0),none⟩,
 ⟨some 6,.call 75 [.t 4,.t 5],none⟩,⟨some 7,.not (.t 6),none⟩,⟨some 3,.mov (.t 7),none⟩] (some [3])) .ret))
theorem m74 : fmatch Tryz.prog Tryz.f74 2 [.tmp 3] v74 = true := by kernel_rfl
def v75 : VC :=
 (.seq (.ops false [⟨some 2,.box 2 4 (.t 0),none⟩,⟨some 4,.mov (.k (.bool false)),none⟩] (some [1,2])) (.seq (.ops false [⟨some 6,.mkf 90 [.t 2],none⟩,
 ⟨some 5,.mov (.t 6),none⟩] (some [1,2,5])) (.seq (.ops false [⟨some 7,.mov (.t 1),none⟩,⟨some 8,.len (.t 7),none⟩,⟨some 9,.fld 1 (.t 2),none⟩,
 ⟨some 10,.load 1 false (.t 9) [],none⟩,⟨some 11,.bin .eql (.t 8) (.t 10),none⟩,⟨some 12,.mov (.t 11),none⟩,⟨some 13,.mov (.t 1),some (12,true)⟩,
 ⟨some 14,.mov (.t 5),some (12,true)⟩,⟨some 15,.call 91 [.t 13,.t 14],some (12,true)⟩,⟨some 16,.not (.t 15),some (12,true)⟩,
 ⟨some 17,.pick (.t 12) (.t 16) (.k (.bool false)),none⟩,⟨some 4,.mov (.t 17),none⟩] (some [4])) .ret)))
theorem m75 : fmatch Tryz.prog Tryz.f75 2 [.tmp 4] v75 = true := by kernel_rfl
def v76 : VC :=
 (.seq (.ops false [⟨some 4,.mov (.k (.bool false)),none⟩] (some [0,1])) (.seq (.ops false [⟨some 5,.mov (.t 0),none⟩,⟨some 6,.mov (.t 1),none⟩,
 ⟨some 7,.call 92 [.t 5,.t 6],none⟩,⟨some 8,.bin .geq (.t 7) (.k (.int 0)),none⟩,⟨some 4,.mov (.t 8),none⟩] (some [4])) .ret))
theorem m76 : fmatch Tryz.prog Tryz.f76 2 [.tmp 4] v76 = true := by kernel_rfl
def v77 : VC :=
 (.seq (.ops false [⟨some 4,.mov (.k (.int 0)),none⟩] (some [0,1])) (.seq (.seq (.ops false [⟨some 6,.mov (.t 0),none⟩,⟨some 7,.len (.t 6),none⟩,
 ⟨some 8,.mov (.k (.int 0)),none⟩] (some [0,1,7,8])) (.block 0 (.loop (.seq (.ops false [⟨some 9,.bin .lss (.t 8) (.t 7),none⟩] (some [0,1,7,8,9])) (.seq (.cond (.t 9) .skip (.exit 0)) (.seq (.block 1 (.seq (.ops false [⟨some 10,.mov (.t 8),none⟩,
 ⟨some 5,.mov (.t 10),none⟩] (some [0,1,5,7,8])) (.seq (.ops false [⟨some 11,.mov (.t 1),none⟩,⟨some 12,.mov (.t 0),none⟩,⟨some 13,.mov (.t 5),none⟩,
 ⟨some 14,.idx 3 (.t 12) (.t 13),none⟩,⟨some 15,.load 3 true (.t 14) [],none⟩,
 ⟨some 16,.callv (.t 11) [.t 15],none⟩] (some [0,1,5,7,8,16])) (.cond (.t 16) (.seq (.ops false [⟨some 17,.mov (.t 5),none⟩,
 ⟨some 4,.mov (.t 17),none⟩] (some [4])) .ret) .skip)))) (.ops false [⟨some 18,.bin .add (.t 8) (.k (.int 1)),none⟩,
 ⟨some 8,.mov (.t 18),none⟩] (some [0,1,7,8])))))))) (.seq (.ops false [⟨some 4,.mov (.k (.int (-1))),none⟩] (some [4])) .ret)))
theorem m77 : fmatch Tryz.prog Tryz.f77 2 [.tmp 4] v77 = true := by kernel_rfl
def v80 : VC :=
 (.seq (.ops false [⟨some 6,.mov (.k (.bool false)),none⟩] (some [])) (.seq (.ops false [⟨some 6,.mov (.k (.bool true)),none⟩] (some [6])) .ret))
theorem m80 : fmatch Tryz.prog Tryz.f80 3 [.tmp 6] v80 = true := by kernel_rfl
def v81 : VC :=
 (.seq (.ops false [⟨some 4,.mov (.k (.bool false)),none⟩] (some [])) (.seq (.ops false [⟨some 4,.mov (.k (.bool true)),none⟩] (some [4])) .ret))
theorem m81 : fmatch Tryz.prog Tryz.f81 2 [.tmp 4] v81 = true := by kernel_rfl
def v82 : VC :=
 (.seq (.ops false [⟨some 1,.box 1 6 (.t 0),none⟩,
 ⟨some 2,.alloc 2 [.int 0,.int 0],none⟩] (some [1,2])) (.seq (.ops false [⟨some 13,.call 93 [.k (.int 0)],none⟩,
 ⟨some 3,.alloc 3 (zeros [.int 0,.int 0] 51),none⟩,
 ⟨none,.store 102 (.t 3) (.t 13) (some 3),none⟩] (some [1,2,3])) (.seq (.seq (.ops false [⟨some 14,.fld 0 (.t 1),none⟩,⟨some 15,.fld 1 (.t 14),none⟩,
 ⟨some 16,.load 1 false (.t 15) [],none⟩,⟨some 17,.bin .sub (.t 16) (.k (.int 1)),none⟩,
 ⟨some 4,.mov (.t 17),none⟩] (some [1,2,3,4])) (.block 0 (.loop (.seq (.seq (.ops false [⟨some 18,.mov (.t 4),none⟩,
 ⟨some 19,.bin .geq (.t 18) (.k (.int 0)),none⟩] (some [1,2,3,4,19])) (.cond (.t 19) .skip (.exit 0))) (.seq (.block 1 (.seq (.ops false [⟨some 22,.load 102 true (.t 3) [],none⟩,
 ⟨some 5,.alloc 5 (zeros [.int 0,.int 0] 51),none⟩,
 ⟨none,.store 102 (.t 5) (.t 22) (some 5),none⟩] (some [1,2,3,4,5])) (.seq (.seq (.ops false [⟨some 23,.fld 0 (.t 1),none⟩,⟨some 24,.fld 2 (.t 23),none⟩,
 ⟨some 25,.load 1 false (.t 24) [],none⟩,⟨some 26,.len (.t 25),none⟩,
 ⟨some 27,.mov (.k (.int 0)),none⟩] (some [1,2,3,4,5,26,27])) (.block 2 (.loop (.seq (.ops false [⟨some 28,.bin .lss (.t 27) (.t 26),none⟩] (some [1,2,3,4,5,26,27,28])) (.seq (.cond (.t 28) .skip (.exit 2)) (.seq (.block 3 (.seq (.ops false [⟨some 29,.mov (.t 27),none⟩,
 ⟨some 6,.mov (.t 29),none⟩] (some [1,2,3,4,5,6,26,27])) (.ops false [⟨some 30,.load 6 true (.t 1) [],none⟩,⟨some 31,.load 102 true (.t 5) [],none⟩,
 ⟨some 32,.mov (.t 6),none⟩,⟨some 33,.mov (.t 4),none⟩,⟨some 34,.call 94 [.t 30,.t 31,.t 32,.t 33],none⟩,
 ⟨none,.store 102 (.t 5) (.t 34) (some 5),none⟩] (some [1,2,3,4,5,26,27])))) (.ops false [⟨some 35,.bin .add (.t 27) (.k (.int 1)),none⟩,
 ⟨some 27,.mov (.t 35),none⟩] (some [1,2,3,4,5,26,27])))))))) (.seq (.ops false [⟨some 36,.call 93 [.k (.int 0)],none⟩,
 ⟨none,.store 102 (.t 3) (.t 36) (some 3),none⟩] (some [1,2,3,4,5])) (.seq (.ops false [⟨some 37,.build [.int 0,.int 0] [(0,1,.k (.int 1048576)),(1,1,.k (.int 0))],none⟩,
 ⟨some 38,.idxA 51 2 (.t 3) (.k (.int 0)),none⟩,
 ⟨none,.store 2 (.t 38) (.t 37) (some 3),none⟩] (some [1,2,3,4,5])) (.seq (.ops false [⟨some 39,.load 102 true (.t 5) [],none⟩,
 ⟨some 40,.mov (.k (.int 0)),none⟩] (some [1,2,3,4,39,40])) (.block 4 (.loop (.seq (.ops false [⟨some 41,.bin .lss (.t 40) (.k (.int 51)),none⟩] (some [1,2,3,4,39,40,41])) (.seq (.cond (.t 41) .skip (.exit 4)) (.seq (.block 5 (.seq (.ops false [⟨some 42,.mov (.t 40),none⟩,
 ⟨some 43,.indexV 51 2 true (.t 39) (.t 40),none⟩,⟨some 8,.alloc 8 [.int 0,.int 0],none⟩,⟨some 7,.mov (.t 42),none⟩,
 ⟨none,.store 2 (.t 8) (.t 43) (some 8),none⟩] (some [1,2,3,4,7,8,39,40])) (.seq (.ops true [⟨some 44,.mov (.t 7),none⟩,⟨some 45,.fld 0 (.t 1),none⟩,
 ⟨some 46,.fld 0 (.t 45),none⟩,⟨some 47,.load 1 false (.t 46) [],none⟩,⟨some 48,.bin .rem (.t 44) (.t 47),none⟩,⟨some 49,.mov (.t 7),none⟩,
 ⟨some 50,.fld 0 (.t 1),none⟩,⟨some 51,.fld 0 (.t 50),none⟩,⟨some 52,.load 1 false (.t 51) [],none⟩,⟨some 53,.bin .quo (.t 49) (.t 52),none⟩,
 ⟨some 9,.mov (.t 48),none⟩,⟨some 10,.mov (.t 53),none⟩] (some [1,2,3,4,8,9,10,39,40])) (.seq (.seq (.ops false [⟨some 54,.fld 4 (.t 1),none⟩,
 ⟨some 55,.load 1 false (.t 54) [],none⟩,⟨some 56,.fld 0 (.t 1),none⟩,⟨some 57,.fld 2 (.t 56),none⟩,⟨some 58,.load 1 false (.t 57) [],none⟩,
 ⟨some 59,.len (.t 58),none⟩,⟨some 60,.mov (.t 4),none⟩,⟨some 61,.mov (.t 9),none⟩,⟨some 62,.callv (.t 55) [.t 59,.t 60,.t 61],none⟩,⟨some 63,.not (.t 62),none⟩,
 ⟨some 64,.mov (.t 63),none⟩,⟨some 65,.fld 5 (.t 1),some (64,false)⟩,⟨some 66,.load 1 false (.t 65) [],some (64,false)⟩,⟨some 67,.mov (.t 4),some (64,false)⟩,
 ⟨some 68,.mov (.t 10),some (64,false)⟩,⟨some 69,.callv (.t 66) [.t 67,.t 68],some (64,false)⟩,⟨some 70,.not (.t 69),some (64,false)⟩,
 ⟨some 71,.pick (.t 64) (.k (.bool true)) (.t 70),none⟩] (some [1,2,3,4,8,9,10,39,40,71])) (.cond (.t 71) (.exit 5) .skip)) (.seq (.ops true [⟨some 72,.fld 0 (.t 1),none⟩,
 ⟨some 73,.fld 3 (.t 72),none⟩,⟨some 74,.load 1 false (.t 73) [],none⟩,⟨some 75,.mov (.t 4),none⟩,⟨some 76,.idx 2 (.t 74) (.t 75),none⟩,
 ⟨some 77,.load 2 true (.t 76) [],none⟩,⟨some 78,.mov (.t 9),none⟩,⟨some 79,.call 95 [.t 77,.t 78],none⟩,⟨some 80,.mov (.t 10),none⟩,
 ⟨some 81,.idxA 51 2 (.t 3) (.t 80),none⟩,⟨some 11,.mov (.t 79),none⟩,
 ⟨some 12,.mov (.t 81),none⟩] (some [1,2,3,4,8,11,12,39,40])) (.seq (.ops true [⟨some 82,.mov (.t 12),none⟩,⟨some 83,.mov (.t 12),none⟩,
 ⟨some 84,.nilck (.t 83),none⟩,⟨some 85,.fld 0 (.t 84),none⟩,⟨some 86,.load 1 false (.t 85) [],none⟩,⟨some 87,.fld 0 (.t 8),none⟩,
 ⟨some 88,.load 1 false (.t 87) [],none⟩,⟨some 89,.mov (.t 11),none⟩,⟨some 90,.bin .add (.t 88) (.t 89),none⟩,⟨some 91,.min (.t 86) (.t 90),none⟩,
 ⟨some 92,.nilck (.t 82),none⟩,⟨some 93,.fld 0 (.t 92),none⟩,
 ⟨none,.store 1 (.t 93) (.t 91) none,none⟩] (some [1,2,3,4,8,11,12,39,40])) (.seq (.ops false [⟨some 94,.mov (.t 11),none⟩,
 ⟨some 95,.bin .eql (.t 94) (.k (.int 0)),none⟩] (some [1,2,3,4,8,12,39,40,95])) (.cond (.t 95) (.ops true [⟨some 96,.mov (.t 12),none⟩,
 ⟨some 97,.nilck (.t 96),none⟩,⟨some 98,.fld 1 (.t 97),none⟩,⟨some 99,.load 1 false (.t 98) [],none⟩,⟨some 100,.fld 1 (.t 8),none⟩,
 ⟨some 101,.load 1 false (.t 100) [],none⟩,⟨some 102,.bin .add (.t 99) (.t 101),none⟩,⟨some 103,.nilck (.t 96),none⟩,⟨some 104,.fld 1 (.t 103),none⟩,
 ⟨none,.store 1 (.t 104) (.t 102) none,none⟩] (some [1,2,3,4,39,40])) .skip)))))))) (.ops false [⟨some 105,.bin .add (.t 40) (.k (.int 1)),none⟩,
 ⟨some 40,.mov (.t 105),none⟩] (some [1,2,3,4,39,40]))))))))))))) (.ops false [⟨some 20,.mov (.t 4),none⟩,⟨some 21,.bin .sub (.t 20) (.k (.int 1)),none⟩,
 ⟨some 4,.mov (.t 21),none⟩] (some [1,2,3,4]))))))) (.seq (.ops false [⟨some 106,.idxA 51 2 (.t 3) (.k (.int 0)),none⟩,⟨some 107,.load 2 true (.t 106) [],none⟩,
 ⟨none,.store 2 (.t 2) (.t 107) (some 2),none⟩] (some [2])) .ret))))
theorem m82 : fmatch Tryz.prog Tryz.f82 1 [.cell 2 136] v82 = true := by kernel_rfl
def v83 : VC :=
 (.seq (.ops false [⟨some 7,.fld 0 (.t 1),none⟩,⟨some 8,.fld 0 (.t 7),none⟩,⟨some 9,.load 1 false (.t 8) [],none⟩,
 ⟨some 10,.mov (.k (.int 0)),none⟩] (some [0,1,2,3,9,10])) (.block 0 (.loop (.seq (.ops false [⟨some 11,.bin .lss (.t 10) (.t 9),none⟩] (some [0,1,2,3,9,10,11])) (.seq (.cond (.t 11) .skip (.exit 0)) (.seq (.block 1 (.seq (.ops false [⟨some 12,.mov (.t 10),none⟩,
 ⟨some 5,.mov (.t 12),none⟩] (some [0,1,2,3,5,9,10])) (.seq (.ops false [⟨some 13,.load 6 true (.t 1) [],none⟩,⟨some 14,.load 1 false (.t 2) [],none⟩,
 ⟨some 15,.load 1 false (.t 3) [],none⟩,⟨some 16,.mov (.t 5),none⟩,⟨some 17,.call 40 [.t 13,.t 14,.t 15,.t 16],none⟩,⟨some 18,.call 66 [.t 17],none⟩,
 ⟨some 6,.mov (.t 18),none⟩] (some [0,1,2,3,5,6,9,10])) (.seq (.ops false [⟨some 19,.mov (.t 6),none⟩,⟨some 20,.bin .gtr (.t 19) (.k (.int 0)),none⟩,
 ⟨some 21,.mov (.t 20),none⟩,⟨some 22,.mov (.t 0),some (21,true)⟩,⟨some 23,.mov (.t 5),some (21,true)⟩,⟨some 24,.mov (.t 6),some (21,true)⟩,
 ⟨some 25,.yield (.t 22) [.t 23,.t 24],some (21,true)⟩,⟨some 26,.not (.t 25),some (21,true)⟩,
 ⟨some 27,.pick (.t 21) (.t 26) (.k (.bool false)),none⟩] (some [0,1,2,3,9,10,27])) (.cond (.t 27) .ret .skip))))) (.ops false [⟨some 28,.bin .add (.t 10) (.k (.int 1)),none⟩,
 ⟨some 10,.mov (.t 28),none⟩] (some [0,1,2,3,9,10]))))))))
theorem m83 : fmatch Tryz.prog Tryz.f83 4 [] v83 = true := by kernel_rfl
def v90 : VC :=
 (.seq (.ops false [⟨some 2,.box 2 2 (.t 0),none⟩,⟨some 3,.mov (.k (.bool false)),none⟩] (some [1,2])) (.seq (.ops false [⟨some 4,.fld 0 (.t 2),none⟩,
 ⟨some 5,.load 1 false (.t 4) [],none⟩,⟨some 6,.fld 1 (.t 2),none⟩,⟨some 7,.load 1 false (.t 6) [],none⟩,⟨some 8,.call 48 [.t 5,.k (.int 0),.t 7],none⟩,
 ⟨some 9,.not (.t 8),none⟩,⟨some 10,.mov (.t 9),none⟩,⟨some 11,.fld 1 (.t 2),some (10,false)⟩,⟨some 12,.load 1 false (.t 11) [],some (10,false)⟩,
 ⟨some 13,.fld 0 (.t 1),some (10,false)⟩,⟨some 14,.load 1 false (.t 13) [],some (10,false)⟩,⟨some 15,.bin .geq (.t 12) (.t 14),some (10,false)⟩,
 ⟨some 16,.pick (.t 10) (.k (.bool true)) (.t 15),none⟩,⟨some 3,.mov (.t 16),none⟩] (some [3])) .ret))
theorem m90 : fmatch Tryz.prog Tryz.f90 2 [.tmp 3] v90 = true := by kernel_rfl
def v91 : VC :=
 (.seq (.ops false [⟨some 4,.mov (.k (.bool false)),none⟩] (some [0,1])) (.seq (.ops false [⟨some 5,.mov (.t 0),none⟩,⟨some 6,.mov (.t 1),none⟩,
 ⟨some 7,.call 106 [.t 5,.t 6],none⟩,⟨some 8,.bin .geq (.t 7) (.k (.int 0)),none⟩,⟨some 4,.mov (.t 8),none⟩] (some [4])) .ret))
theorem m91 : fmatch Tryz.prog Tryz.f91 2 [.tmp 4] v91 = true := by kernel_rfl
def v92 : VC :=
 (.seq (.ops false [⟨some 4,.mov (.k (.int 0)),none⟩] (some [0,1])) (.seq (.seq (.ops false [⟨some 6,.mov (.t 0),none⟩,⟨some 7,.len (.t 6),none⟩,
 ⟨some 8,.mov (.k (.int 0)),none⟩] (some [0,1,7,8])) (.block 0 (.loop (.seq (.ops false [⟨some 9,.bin .lss (.t 8) (.t 7),none⟩] (some [0,1,7,8,9])) (.seq (.cond (.t 9) .skip (.exit 0)) (.seq (.block 1 (.seq (.ops false [⟨some 10,.mov (.t 8),none⟩,
 ⟨some 5,.mov (.t 10),none⟩] (some [0,1,5,7,8])) (.seq (.ops false [⟨some 11,.mov (.t 1),none⟩,⟨some 12,.mov (.t 0),none⟩,⟨some 13,.mov (.t 5),none⟩,
 ⟨some 14,.idx 1 (.t 12) (.t 13),none⟩,⟨some 15,.load 1 false (.t 14) [],none⟩,
 ⟨some 16,.callv (.t 11) [.t 15],none⟩] (some [0,1,5,7,8,16])) (.cond (.t 16) (.seq (.ops false [⟨some 17,.mov (.t 5),none⟩,
 ⟨some 4,.mov (.t 17),none⟩] (some [4])) .ret) .skip)))) (.ops false [⟨some 18,.bin .add (.t 8) (.k (.int 1)),none⟩,
 ⟨some 8,.mov (.t 18),none⟩] (some [0,1,7,8])))))))) (.seq (.ops false [⟨some 4,.mov (.k (.int (-1))),none⟩] (some [4])) .ret)))
theorem m92 : fmatch Tryz.prog Tryz.f92 2 [.tmp 4] v92 = true := by kernel_rfl
def v93 : VC :=
 (.seq (.ops false [⟨some 2,.alloc 2 (zeros [.int 0,.int 0] 51),none⟩] (some [0,2])) (.seq (.seq (.ops false [⟨some 4,.mov (.k (.int 0)),none⟩] (some [0,2,4])) (.block 0 (.loop (.seq (.ops false [⟨some 5,.bin .lss (.t 4) (.k (.int 51)),none⟩] (some [0,2,4,5])) (.seq (.cond (.t 5) .skip (.exit 0)) (.seq (.block 1 (.seq (.ops false [⟨some 6,.mov (.t 4),none⟩,
 ⟨some 3,.mov (.t 6),none⟩] (some [0,2,3,4])) (.ops false [⟨some 7,.mov (.t 3),none⟩,⟨some 8,.idxA 51 2 (.t 2) (.t 7),none⟩,⟨some 9,.fld 0 (.t 8),none⟩,
 ⟨none,.store 1 (.t 9) (.k (.int 1048576)) (some 2),none⟩] (some [0,2,4])))) (.ops false [⟨some 10,.bin .add (.t 4) (.k (.int 1)),none⟩,
 ⟨some 4,.mov (.t 10),none⟩] (some [0,2,4])))))))) (.seq (.ops false [⟨some 11,.mov (.t 0),none⟩,
 ⟨some 12,.build [.int 0,.int 0] [(0,1,.k (.int 0)),(1,1,.k (.int 1))],none⟩,⟨some 13,.idxA 51 2 (.t 2) (.t 11),none⟩,
 ⟨none,.store 2 (.t 13) (.t 12) (some 2),none⟩] (some [2])) (.seq (.ops false [⟨some 14,.load 102 true (.t 2) [],none⟩,
 ⟨none,.store 102 (.t 2) (.t 14) (some 2),none⟩] (some [2])) .ret))))
theorem m93 : fmatch Tryz.prog Tryz.f93 1 [.cell 2 148] v93 = true := by kernel_rfl
def v94 : VC :=
 (.seq (.ops false [⟨some 4,.box 4 6 (.t 0),none⟩,⟨some 5,.box 5 102 (.t 1),none⟩,
 ⟨some 8,.alloc 8 (zeros [.int 0,.int 0] 51),none⟩] (some [2,3,4,5,8])) (.seq (.ops false [⟨some 15,.call 93 [.k (.int 0)],none⟩,
 ⟨some 9,.alloc 9 (zeros [.int 0,.int 0] 51),none⟩,
 ⟨none,.store 102 (.t 9) (.t 15) (some 9),none⟩] (some [2,3,4,5,8,9])) (.seq (.ops false [⟨some 16,.build [.int 0,.int 0] [(0,1,.k (.int 1048576)),(1,1,.k (.int 0))],none⟩,
 ⟨some 17,.idxA 51 2 (.t 9) (.k (.int 0)),none⟩,
 ⟨none,.store 2 (.t 17) (.t 16) (some 9),none⟩] (some [2,3,4,5,8,9])) (.seq (.seq (.ops false [⟨some 18,.fld 0 (.t 4),none⟩,⟨some 19,.fld 0 (.t 18),none⟩,
 ⟨some 20,.load 1 false (.t 19) [],none⟩,
 ⟨some 21,.mov (.k (.int 0)),none⟩] (some [2,3,4,5,8,9,20,21])) (.block 0 (.loop (.seq (.ops false [⟨some 22,.bin .lss (.t 21) (.t 20),none⟩] (some [2,3,4,5,8,9,20,21,22])) (.seq (.cond (.t 22) .skip (.exit 0)) (.seq (.block 1 (.seq (.ops false [⟨some 23,.mov (.t 21),none⟩,
 ⟨some 10,.mov (.t 23),none⟩] (some [2,3,4,5,8,9,10,20,21])) (.seq (.seq (.ops false [⟨some 24,.fld 4 (.t 4),none⟩,⟨some 25,.load 1 false (.t 24) [],none⟩,
 ⟨some 26,.mov (.t 2),none⟩,⟨some 27,.mov (.t 3),none⟩,⟨some 28,.mov (.t 10),none⟩,⟨some 29,.callv (.t 25) [.t 26,.t 27,.t 28],none⟩,
 ⟨some 30,.not (.t 29),none⟩] (some [2,3,4,5,8,9,10,20,21,30])) (.cond (.t 30) (.exit 1) .skip)) (.seq (.ops false [⟨some 31,.fld 0 (.t 4),none⟩,
 ⟨some 32,.fld 2 (.t 31),none⟩,⟨some 33,.load 1 false (.t 32) [],none⟩,⟨some 34,.mov (.t 2),none⟩,⟨some 35,.idx 1 (.t 33) (.t 34),none⟩,
 ⟨some 36,.load 1 false (.t 35) [],none⟩,⟨some 37,.mov (.t 3),none⟩,⟨some 38,.idx 2 (.t 36) (.t 37),none⟩,⟨some 39,.load 2 true (.t 38) [],none⟩,
 ⟨some 40,.mov (.t 10),none⟩,⟨some 41,.call 95 [.t 39,.t 40],none⟩,
 ⟨some 11,.mov (.t 41),none⟩] (some [2,3,4,5,8,9,10,11,20,21])) (.seq (.ops false [⟨some 42,.mov (.t 10),none⟩,⟨some 43,.bin .sub (.k (.int 51)) (.t 42),none⟩,
 ⟨some 44,.sliceA 51 2 true (.t 5) none (some (.t 43)),none⟩,⟨some 45,.len (.t 44),none⟩,
 ⟨some 46,.mov (.k (.int 0)),none⟩] (some [2,3,4,5,8,9,10,11,20,21,44,45,46])) (.block 2 (.loop (.seq (.ops false [⟨some 47,.bin .lss (.t 46) (.t 45),none⟩] (some [2,3,4,5,8,9,10,11,20,21,44,45,46,47])) (.seq (.cond (.t 47) .skip (.exit 2)) (.seq (.block 3 (.seq (.ops false [⟨some 48,.mov (.t 46),none⟩,
 ⟨some 49,.idx 2 (.t 44) (.t 46),none⟩,⟨some 50,.load 2 true (.t 49) [],none⟩,⟨some 13,.alloc 13 [.int 0,.int 0],none⟩,⟨some 12,.mov (.t 48),none⟩,
 ⟨none,.store 2 (.t 13) (.t 50) (some 13),none⟩] (some [2,3,4,5,8,9,10,11,12,13,20,21,44,45,46])) (.seq (.ops false [⟨some 51,.mov (.t 12),none⟩,
 ⟨some 52,.mov (.t 10),none⟩,⟨some 53,.bin .add (.t 51) (.t 52),none⟩,⟨some 54,.idxA 51 2 (.t 9) (.t 53),none⟩,
 ⟨some 14,.mov (.t 54),none⟩] (some [2,3,4,5,8,9,10,11,13,14,20,21,44,45,46])) (.seq (.ops true [⟨some 55,.mov (.t 14),none⟩,⟨some 56,.mov (.t 14),none⟩,
 ⟨some 57,.nilck (.t 56),none⟩,⟨some 58,.fld 0 (.t 57),none⟩,⟨some 59,.load 1 false (.t 58) [],none⟩,⟨some 60,.fld 0 (.t 13),none⟩,
 ⟨some 61,.load 1 false (.t 60) [],none⟩,⟨some 62,.mov (.t 11),none⟩,⟨some 63,.bin .add (.t 61) (.t 62),none⟩,⟨some 64,.min (.t 59) (.t 63),none⟩,
 ⟨some 65,.nilck (.t 55),none⟩,⟨some 66,.fld 0 (.t 65),none⟩,
 ⟨none,.store 1 (.t 66) (.t 64) none,none⟩] (some [2,3,4,5,8,9,10,11,13,14,20,21,44,45,46])) (.seq (.ops false [⟨some 67,.mov (.t 11),none⟩,
 ⟨some 68,.bin .eql (.t 67) (.k (.int 0)),none⟩] (some [2,3,4,5,8,9,10,11,13,14,20,21,44,45,46,68])) (.cond (.t 68) (.ops true [⟨some 69,.mov (.t 14),none⟩,
 ⟨some 70,.nilck (.t 69),none⟩,⟨some 71,.fld 1 (.t 70),none⟩,⟨some 72,.load 1 false (.t 71) [],none⟩,⟨some 73,.fld 1 (.t 13),none⟩,
 ⟨some 74,.load 1 false (.t 73) [],none⟩,⟨some 75,.bin .add (.t 72) (.t 74),none⟩,⟨some 76,.nilck (.t 69),none⟩,⟨some 77,.fld 1 (.t 76),none⟩,
 ⟨none,.store 1 (.t 77) (.t 75) none,none⟩] (some [2,3,4,5,8,9,10,11,20,21,44,45,46])) .skip)))))) (.ops false [⟨some 78,.bin .add (.t 46) (.k (.int 1)),none⟩,
 ⟨some 46,.mov (.t 78),none⟩] (some [2,3,4,5,8,9,10,11,20,21,44,45,46])))))))))))) (.ops false [⟨some 79,.bin .add (.t 21) (.k (.int 1)),none⟩,
 ⟨some 21,.mov (.t 79),none⟩] (some [2,3,4,5,8,9,20,21])))))))) (.seq (.ops false [⟨some 80,.load 102 true (.t 9) [],none⟩,
 ⟨none,.store 102 (.t 8) (.t 80) (some 8),none⟩] (some [8])) .ret)))))
theorem m94 : fmatch Tryz.prog Tryz.f94 4 [.cell 8 148] v94 = true := by kernel_rfl
def v95 : VC :=
 (.seq (.ops false [⟨some 2,.box 2 2 (.t 0),none⟩,⟨some 4,.mov (.k (.int 0)),none⟩] (some [1,2])) (.seq (.ops false [⟨some 5,.fld 0 (.t 2),none⟩,
 ⟨some 6,.load 1 false (.t 5) [],none⟩,⟨some 7,.mov (.t 1),none⟩,⟨some 8,.bin .sub (.t 6) (.t 7),none⟩,⟨some 9,.mov (.t 1),none⟩,⟨some 10,.fld 1 (.t 2),none⟩,
 ⟨some 11,.load 1 false (.t 10) [],none⟩,⟨some 12,.bin .sub (.t 9) (.t 11),none⟩,⟨some 13,.max3 (.k (.int 0)) (.t 8) (.t 12),none⟩,
 ⟨some 4,.mov (.t 13),none⟩] (some [4])) .ret))
theorem m95 : fmatch Tryz.prog Tryz.f95 2 [.tmp 4] v95 = true := by kernel_rfl
def v106 : VC :=
 (.seq (.ops false [⟨some 4,.mov (.k (.int 0)),none⟩] (some [0,1])) (.seq (.seq (.ops false [⟨some 6,.mov (.t 0),none⟩,⟨some 7,.len (.t 6),none⟩,
 ⟨some 8,.mov (.k (.int 0)),none⟩] (some [0,1,7,8])) (.block 0 (.loop (.seq (.ops false [⟨some 9,.bin .lss (.t 8) (.t 7),none⟩] (some [0,1,7,8,9])) (.seq (.cond (.t 9) .skip (.exit 0)) (.seq (.block 1 (.seq (.ops false [⟨some 10,.mov (.t 8),none⟩,
 ⟨some 5,.mov (.t 10),none⟩] (some [0,1,5,7,8])) (.seq (.ops false [⟨some 11,.mov (.t 1),none⟩,⟨some 12,.mov (.t 0),none⟩,⟨some 13,.mov (.t 5),none⟩,
 ⟨some 14,.idx 2 (.t 12) (.t 13),none⟩,⟨some 15,.load 2 true (.t 14) [],none⟩,
 ⟨some 16,.callv (.t 11) [.t 15],none⟩] (some [0,1,5,7,8,16])) (.cond (.t 16) (.seq (.ops false [⟨some 17,.mov (.t 5),none⟩,
 ⟨some 4,.mov (.t 17),none⟩] (some [4])) .ret) .skip)))) (.ops false [⟨some 18,.bin .add (.t 8) (.k (.int 1)),none⟩,
 ⟨some 8,.mov (.t 18),none⟩] (some [0,1,7,8])))))))) (.seq (.ops false [⟨some 4,.mov (.k (.int (-1))),none⟩] (some [4])) .ret)))
theorem m106 : fmatch Tryz.prog Tryz.f106 2 [.tmp 4] v106 = true := by kernel_rfl
def v107 : VC :=
 (.seq (.ops false [⟨some 4,.mov (.k (.bool false)),none⟩] (some [0,1])) (.seq (.ops false [⟨some 5,.mov (.t 0),none⟩,⟨some 6,.mov (.t 1),none⟩,
 ⟨some 7,.call 111 [.t 5,.t 6],none⟩,⟨some 8,.bin .geq (.t 7) (.k (.int 0)),none⟩,⟨some 4,.mov (.t 8),none⟩] (some [4])) .ret))
theorem m107 : fmatch Tryz.prog Tryz.f107 2 [.tmp 4] v107 = true := by kernel_rfl
def v111 : VC :=
 (.seq (.ops false [⟨some 4,.mov (.k (.int 0)),none⟩] (some [0,1])) (.seq (.seq (.ops false [⟨some 6,.mov (.t 0),none⟩,⟨some 7,.len (.t 6),none⟩,
 ⟨some 8,.mov (.k (.int 0)),none⟩] (some [0,1,7,8])) (.block 0 (.loop (.seq (.ops false [⟨some 9,.bin .lss (.t 8) (.t 7),none⟩] (some [0,1,7,8,9])) (.seq (.cond (.t 9) .skip (.exit 0)) (.seq (.block 1 (.seq (.ops false [⟨some 10,.mov (.t 8),none⟩,
 ⟨some 5,.mov (.t 10),none⟩] (some [0,1,5,7,8])) (.seq (.ops false [⟨some 11,.mov (.t 1),none⟩,⟨some 12,.mov (.t 0),none⟩,⟨some 13,.mov (.t 5),none⟩,
 ⟨some 14,.idx 1 (.t 12) (.t 13),none⟩,⟨some 15,.load 1 false (.t 14) [],none⟩,
 ⟨some 16,.callv (.t 11) [.t 15],none⟩] (some [0,1,5,7,8,16])) (.cond (.t 16) (.seq (.ops false [⟨some 17,.mov (.t 5),none⟩,
 ⟨some 4,.mov (.t 17),none⟩] (some [4])) .ret) .skip)))) (.ops false [⟨some 18,.bin .add (.t 8) (.k (.int 1)),none⟩,
 ⟨some 8,.mov (.t 18),none⟩] (some [0,1,7,8])))))))) (.seq (.ops false [⟨some 4,.mov (.k (.int (-1))),none⟩] (some [4])) .ret)))
theorem m111 : fmatch Tryz.prog Tryz.f111 2 [.tmp 4] v111 = true := by kernel_rfl
def v55r : VC :=
 (.seq (.ops false [⟨some 1,.box 1001 6 (.t 0),none⟩,⟨some 2,.mov (.k .und),none⟩] (some [1])) (.seq (.ops false [⟨some 3,.mkw 78 [.t 1],none⟩,
 ⟨some 2,.mov (.t 3),none⟩] (some [2])) .ret))
theorem m55r : fmatch Tryz.prog Tryz.f55 1 [.tmp 2] v55r = true := by kernel_rfl
def v78r : VC :=
 (.seq (.ops false [⟨some 2,.box 2002 1 (.t 0),none⟩] (some [1,2])) (.seq (.ops false [⟨some 3,.alloc 2003 [.und],none⟩] (some [1,2,3])) (.seq (.ops false [⟨some 4,.mkw 79 [.t 1,.t 2,.t 3],none⟩,
 ⟨none,.store 1 (.t 3) (.t 4) (some 2003),none⟩] (some [3])) (.ops false [⟨some 5,.load 1 false (.t 3) [],none⟩,
 ⟨some 6,.callw (.t 5) [.k (.sl 2 [] .full),.k (.int 0),.k (.un 0)],none⟩] (some [])))))
theorem m78r : fmatch Tryz.prog Tryz.f78 2 [] v78r = true := by kernel_rfl
def v79r (k : Nat) : VC :=
 (.seq (.ops false [⟨some 9,.mov (.k (.bool false)),none⟩] (some [0,1,2,3,4,5])) (.seq (.seq (.ops false [⟨some 14,.mov (.t 1),none⟩,
 ⟨some 15,.fld 4 (.t 3),none⟩,⟨some 16,.load 1 false (.t 15) [],none⟩,⟨some 17,.len (.t 16),none⟩,
 ⟨some 18,.bin .eql (.t 14) (.t 17),none⟩] (some [0,1,2,3,4,5,18])) (.cond (.t 18) (.seq (.ops false [⟨some 19,.load 1 false (.t 4) [],none⟩,
 ⟨some 20,.mov (.t 0),none⟩,⟨some 21,.yield (.t 19) [.t 20],none⟩,
 ⟨some 9,.mov (.t 21),none⟩] (some [9])) .ret) .skip)) (.seq (.seq (.ops false [⟨some 22,.load 1 false (.t 5) [],none⟩,⟨some 23,.mov (.t 0),none⟩,
 ⟨some 24,.mov (.t 1),none⟩,⟨some 25,.bin .add (.t 24) (.k (.int 1)),none⟩,⟨some 26,.mov (.t 2),none⟩,⟨some 27,.callw (.t 22) [.t 23,.t 25,.t 26],none⟩,
 ⟨some 28,.not (.t 27),none⟩] (some [0,1,2,3,5,28])) (.cond (.t 28) (.seq (.ops false [⟨some 9,.mov (.k (.bool false)),none⟩] (some [9])) .ret) .skip)) (.seq (.seq (.ops false [⟨some 29,.fld 5 (.t 3),none⟩,
 ⟨some 30,.load 1 false (.t 29) [],none⟩,⟨some 31,.len (.t 30),none⟩,
 ⟨some 32,.mov (.k (.int 0)),none⟩] (some [0,1,2,3,5,30,31,32])) (.block 0 (.loop (.seq (.ops false [⟨some 33,.bin .lss (.t 32) (.t 31),none⟩] (some [0,1,2,3,5,30,31,32,33])) (.seq (.cond (.t 33) .skip (.exit 0)) (.seq (.block 1 (.seq (.ops false [⟨some 34,.mov (.t 32),none⟩,
 ⟨some 35,.idx 3 (.t 30) (.t 32),none⟩,⟨some 36,.load 3 true (.t 35) [],none⟩,⟨some 11,.alloc 3011 [.int 0,.int 0,.sl 2 [] .full],none⟩,
 ⟨some 10,.mov (.t 34),none⟩,
 ⟨none,.store 3 (.t 11) (.t 36) (some 3011),none⟩] (some [0,1,2,3,5,10,11,30,31,32])) (.seq (.seq (.ops false [⟨some 37,.mov (.t 2),none⟩,
 ⟨some 38,.mov (.t 10),none⟩,⟨some 39,.bin .shr (.t 37) (.t 38),none⟩,⟨some 40,.bin .band (.t 39) (.k (.un 1)),none⟩,
 ⟨some 41,.bin .eql (.t 40) (.k (.un 1)),none⟩] (some [0,1,2,3,5,10,11,30,31,32,41])) (.cond (.t 41) (.exit 1) .skip)) (.seq (.ops true [⟨some 43,.fld 3 (.t 3),none⟩,
 ⟨some 44,.load 1 false (.t 43) [],none⟩,⟨some 45,.fld 4 (.t 3),none⟩,⟨some 46,.load 1 false (.t 45) [],none⟩,⟨some 47,.mov (.t 1),none⟩,
 ⟨some 48,.idx 3 (.t 46) (.t 47),none⟩,⟨some 49,.load 3 true (.t 48) [],none⟩,⟨some 50,.load 3 true (.t 11) [],none⟩,⟨some 51,.call 35 [.t 44,.t 49,.t 50],none⟩,
 ⟨some 42,.mov (.t 51),none⟩,⟨some 52,.ext (.t 42) 0,none⟩,⟨some 53,.ext (.t 42) 1,none⟩,⟨some 12,.mov (.t 52),none⟩,
 ⟨some 13,.mov (.t 53),none⟩] (some [0,1,2,3,5,10,13,30,31,32])) (.seq (.opsB [⟨some 54,.mov (.t 13),none⟩,⟨some 55,.mov (.t 54),none⟩,
 ⟨some 56,.load 1 false (.t 5) [],some (55,true)⟩,⟨some 57,.mov (.t 0),some (55,true)⟩,⟨some 58,.mov (.t 0),some (55,true)⟩,
 ⟨some 59,.len (.t 58),some (55,true)⟩,⟨some 60,.mov (.t 0),some (55,true)⟩,⟨some 61,.len (.t 60),some (55,true)⟩,
 ⟨some 62,.sliceF 2 (.t 57) none (some (.t 59)) (some (.t 61)),some (55,true)⟩,⟨some 63,.mov (.t 1),some (55,true)⟩,⟨some 64,.mov (.t 10),some (55,true)⟩,
 ⟨some 65,.build [.int 0,.int 0] [(0,1,.t 63),(1,1,.t 64)],some (55,true)⟩,⟨some 66,.bslice 2 [.t 65],some (55,true)⟩,
 ⟨some 67,.app k 2 16 (.t 62) (.t 66),some (55,true)⟩,⟨some 68,.mov (.t 1),some (55,true)⟩,⟨some 69,.bin .add (.t 68) (.k (.int 1)),some (55,true)⟩,
 ⟨some 70,.mov (.t 2),some (55,true)⟩,⟨some 71,.mov (.t 10),some (55,true)⟩,⟨some 72,.bin .shl (.k (.un 1)) (.t 71),some (55,true)⟩,
 ⟨some 73,.bin .bor (.t 70) (.t 72),some (55,true)⟩] ⟨some 74,.callw (.t 56) [.t 67,.t 69,.t 73],some (55,true)⟩ [⟨some 75,.not (.t 74),some (55,true)⟩,
 ⟨some 76,.pick (.t 55) (.t 75) (.k (.bool false)),none⟩] (some [0,1,2,3,5,30,31,32,76])) (.cond (.t 76) (.seq (.ops false [⟨some 9,.mov (.k (.bool false)),none⟩] (some [9])) .ret) .skip)))))) (.ops false [⟨some 77,.bin .add (.t 32) (.k (.int 1)),none⟩,
 ⟨some 32,.mov (.t 77),none⟩] (some [0,1,2,3,5,30,31,32])))))))) (.seq (.ops false [⟨some 9,.mov (.k (.bool true)),none⟩] (some [9])) .ret)))))
theorem m79r (k : Nat) : fmatch Tryz.prog Tryz.f79 6 [.tmp 9] (v79r k) = true := by kernel_rfl
def v30r : VC :=
 (.seq (.ops false [⟨some 1,.box 1 6 (.t 0),none⟩,
 ⟨some 2,.nils 2 1,none⟩] (some [1])) (.seq (.ops false [⟨some 3,.alloc 3 [.sl 1 [] .full],none⟩] (some [1,3])) (.seq (.seq (.ops false [⟨some 5,.load 6 true (.t 1) [],none⟩,
 ⟨some 6,.calli 55 [.t 5],none⟩] (some [3,6])) (.block 0 (.range (.t 6) [7] (.ops false [⟨some 4,.mov (.t 7),none⟩] (some [3,4])) (.block 1 (.seq (.seq (.ops false [⟨some 8,.load 1 false (.t 3) [],none⟩,
 ⟨some 9,.len (.t 8),none⟩,⟨some 10,.bin .gtr (.t 9) (.k (.int 0)),none⟩,⟨some 11,.mov (.t 10),none⟩,⟨some 12,.mov (.t 4),some (11,true)⟩,
 ⟨some 13,.len (.t 12),some (11,true)⟩,⟨some 14,.load 1 false (.t 3) [],some (11,true)⟩,⟨some 15,.idx 1 (.t 14) (.k (.int 0)),some (11,true)⟩,
 ⟨some 16,.load 1 false (.t 15) [],some (11,true)⟩,⟨some 17,.len (.t 16),some (11,true)⟩,⟨some 18,.bin .gtr (.t 13) (.t 17),some (11,true)⟩,
 ⟨some 19,.pick (.t 11) (.t 18) (.k (.bool false)),none⟩] (some [3,4,19])) (.cond (.t 19) (.ops false [⟨none,.store 1 (.t 3) (.k (.sl 1 [] .full)) (some 3),none⟩] (some [3,4])) .skip)) (.seq (.ops false [⟨some 20,.load 1 false (.t 3) [],none⟩,
 ⟨some 21,.len (.t 20),none⟩,⟨some 22,.bin .eql (.t 21) (.k (.int 0)),none⟩,⟨some 23,.mov (.t 22),none⟩,⟨some 24,.mov (.t 4),some (23,false)⟩,
 ⟨some 25,.len (.t 24),some (23,false)⟩,⟨some 26,.load 1 false (.t 3) [],some (23,false)⟩,⟨some 27,.idx 1 (.t 26) (.k (.int 0)),some (23,false)⟩,
 ⟨some 28,.load 1 false (.t 27) [],some (23,false)⟩,⟨some 29,.len (.t 28),some (23,false)⟩,⟨some 30,.bin .eql (.t 25) (.t 29),some (23,false)⟩,
 ⟨some 31,.pick (.t 23) (.k (.bool true)) (.t 30),none⟩] (some [3,4,31])) (.cond (.t 31) (.ops false [⟨some 32,.load 1 false (.t 3) [],none⟩,
 ⟨some 33,.mov (.t 4),none⟩,⟨some 34,.bslice 1 [.t 33],none⟩,⟨some 35,.appG 35 (some (.t 33)) 1 24 false (.t 32) (.t 34),none⟩,
 ⟨none,.store 1 (.t 3) (.t 35) (some 3),none⟩] (some [])) .skip))))))) (.seq (.ops false [⟨some 36,.load 1 false (.t 3) [],none⟩,
 ⟨some 2,.mov (.t 36),none⟩] (some [2])) .ret))))
theorem m30r : fmatch Tryz.prog Tryz.f30 1 [.tmp 2] v30r = true := by kernel_rfl
def v33w : VC :=
 (.seq (.ops false [⟨some 4,.box 4 6 (.t 1),none⟩,⟨some 5,.box 5 1 (.t 2),none⟩,
 ⟨some 6,.alloc 6 [.int 0,.int 0],none⟩] (some [0,4,5,6])) (.seq (.ops false [⟨some 7,.alloc 7 [.int 0,.int 0],none⟩] (some [0,4,5,6,7])) (.seq (.ops false [⟨some 16,.mkw 56 [.t 5,.t 4,.t 7],none⟩,
 ⟨some 8,.mov (.t 16),none⟩] (some [0,4,6,7,8])) (.seq (.seq (.ops false [⟨some 17,.fld 4 (.t 4),none⟩,⟨some 18,.load 1 false (.t 17) [],none⟩,
 ⟨some 19,.len (.t 18),none⟩,
 ⟨some 20,.mov (.k (.int 0)),none⟩] (some [0,4,6,7,8,18,19,20])) (.block 0 (.loop (.seq (.ops false [⟨some 21,.bin .lss (.t 20) (.t 19),none⟩] (some [0,4,6,7,8,18,19,20,21])) (.seq (.cond (.t 21) .skip (.exit 0)) (.seq (.block 1 (.seq (.ops false [⟨some 22,.mov (.t 20),none⟩,
 ⟨some 23,.idx 3 (.t 18) (.t 20),none⟩,⟨some 24,.load 3 true (.t 23) [],none⟩,⟨some 9,.alloc 9 [.int 0],none⟩,
 ⟨some 10,.alloc 10 [.int 0,.int 0,.sl 2 [] .full],none⟩,⟨none,.store 1 (.t 9) (.t 22) (some 9),none⟩,
 ⟨none,.store 3 (.t 10) (.t 24) (some 10),none⟩] (some [0,4,6,7,8,9,10,18,19,20])) (.seq (.ops false [⟨some 25,.mov (.t 0),none⟩,⟨some 26,.mkf 59 [.t 9],none⟩,
 ⟨some 27,.call 58 [.t 25,.t 26],none⟩,⟨some 28,.not (.t 27),none⟩] (some [0,4,6,7,8,10,18,19,20,28])) (.cond (.t 28) (.ops false [⟨some 29,.mov (.t 8),none⟩,
 ⟨some 30,.load 3 true (.t 10) [],none⟩,⟨some 31,.fld 2 (.t 10),none⟩,⟨some 32,.load 1 false (.t 31) [],none⟩,
 ⟨some 33,.callw (.t 29) [.t 30,.t 32],none⟩] (some [0,4,6,7,8,18,19,20])) .skip)))) (.ops false [⟨some 34,.bin .add (.t 20) (.k (.int 1)),none⟩,
 ⟨some 20,.mov (.t 34),none⟩] (some [0,4,6,7,8,18,19,20])))))))) (.seq (.seq (.ops false [⟨some 35,.fld 5 (.t 4),none⟩,⟨some 36,.load 1 false (.t 35) [],none⟩,
 ⟨some 37,.len (.t 36),none⟩,
 ⟨some 38,.mov (.k (.int 0)),none⟩] (some [0,4,6,7,8,36,37,38])) (.block 2 (.loop (.seq (.ops false [⟨some 39,.bin .lss (.t 38) (.t 37),none⟩] (some [0,4,6,7,8,36,37,38,39])) (.seq (.cond (.t 39) .skip (.exit 2)) (.seq (.block 3 (.seq (.ops false [⟨some 40,.mov (.t 38),none⟩,
 ⟨some 41,.idx 3 (.t 36) (.t 38),none⟩,⟨some 42,.load 3 true (.t 41) [],none⟩,⟨some 11,.alloc 11 [.int 0],none⟩,
 ⟨some 12,.alloc 12 [.int 0,.int 0,.sl 2 [] .full],none⟩,⟨none,.store 1 (.t 11) (.t 40) (some 11),none⟩,
 ⟨none,.store 3 (.t 12) (.t 42) (some 12),none⟩] (some [0,4,6,7,8,11,12,36,37,38])) (.seq (.ops false [⟨some 43,.mov (.t 0),none⟩,⟨some 44,.mkf 61 [.t 11],none⟩,
 ⟨some 45,.call 60 [.t 43,.t 44],none⟩,⟨some 13,.mov (.t 45),none⟩] (some [0,4,6,7,8,12,13,36,37,38])) (.seq (.seq (.ops false [⟨some 46,.mov (.t 13),none⟩,
 ⟨some 47,.bin .lss (.t 46) (.k (.int 0)),none⟩] (some [0,4,6,7,8,12,13,36,37,38,47])) (.cond (.t 47) (.seq (.ops false [⟨some 48,.mov (.t 8),none⟩,
 ⟨some 49,.load 3 true (.t 12) [],none⟩,⟨some 50,.fld 2 (.t 12),none⟩,⟨some 51,.load 1 false (.t 50) [],none⟩,
 ⟨some 52,.callw (.t 48) [.t 49,.t 51],none⟩] (some [0,4,6,7,8,36,37,38])) (.exit 3)) .skip)) (.seq (.ops true [⟨some 54,.fld 3 (.t 4),none⟩,
 ⟨some 55,.load 1 false (.t 54) [],none⟩,⟨some 56,.fld 4 (.t 4),none⟩,⟨some 57,.load 1 false (.t 56) [],none⟩,⟨some 58,.mov (.t 0),none⟩,
 ⟨some 59,.mov (.t 13),none⟩,⟨some 60,.idx 2 (.t 58) (.t 59),none⟩,⟨some 61,.fld 0 (.t 60),none⟩,⟨some 62,.load 1 false (.t 61) [],none⟩,
 ⟨some 63,.idx 3 (.t 57) (.t 62),none⟩,⟨some 64,.load 3 true (.t 63) [],none⟩,⟨some 65,.load 3 true (.t 12) [],none⟩,⟨some 66,.call 35 [.t 55,.t 64,.t 65],none⟩,
 ⟨some 53,.mov (.t 66),none⟩,⟨some 67,.ext (.t 53) 0,none⟩,⟨some 68,.ext (.t 53) 1,none⟩,⟨some 14,.mov (.t 67),none⟩,
 ⟨some 15,.mov (.t 68),none⟩] (some [0,4,6,7,8,12,14,36,37,38])) (.ops false [⟨some 69,.mov (.t 8),none⟩,⟨some 70,.load 3 true (.t 12) [],none⟩,
 ⟨some 71,.mov (.t 14),none⟩,
 ⟨some 72,.callw (.t 69) [.t 70,.t 71],none⟩] (some [0,4,6,7,8,36,37,38]))))))) (.ops false [⟨some 73,.bin .add (.t 38) (.k (.int 1)),none⟩,
 ⟨some 38,.mov (.t 73),none⟩] (some [0,4,6,7,8,36,37,38])))))))) (.seq (.ops false [⟨some 74,.load 2 true (.t 7) [],none⟩,
 ⟨none,.store 2 (.t 6) (.t 74) (some 6),none⟩] (some [6])) .ret))))))
theorem m33w : fmatch Tryz.prog Tryz.f33 3 [.cell 6 35] v33w = true := by kernel_rfl
def v56w : VC :=
 (.seq (.ops false [⟨some 5,.box 1005 3 (.t 0),none⟩] (some [1,2,3,4,5])) (.seq (.ops false [⟨some 8,.fld 1 (.t 5),none⟩,⟨some 9,.load 1 false (.t 8) [],none⟩,
 ⟨some 10,.load 1 false (.t 2) [],none⟩,
 ⟨some 11,.bin .eql (.t 9) (.t 10),none⟩] (some [1,3,4,11])) (.cond (.t 11) (.seq (.ops false [⟨some 12,.load 6 true (.t 3) [],none⟩,⟨some 13,.mov (.t 1),none⟩,
 ⟨some 14,.call 57 [.t 12,.t 13],none⟩,⟨some 7,.alloc 1007 [.int 0,.int 0],none⟩,
 ⟨none,.store 2 (.t 7) (.t 14) (some 1007),none⟩] (some [4,7])) (.ops false [⟨some 15,.fld 0 (.t 4),none⟩,⟨some 16,.load 1 false (.t 15) [],none⟩,
 ⟨some 17,.fld 0 (.t 7),none⟩,⟨some 18,.load 1 false (.t 17) [],none⟩,⟨some 19,.bin .add (.t 16) (.t 18),none⟩,⟨some 20,.fld 1 (.t 4),none⟩,
 ⟨some 21,.load 1 false (.t 20) [],none⟩,⟨some 22,.fld 1 (.t 7),none⟩,⟨some 23,.load 1 false (.t 22) [],none⟩,⟨some 24,.bin .add (.t 21) (.t 23),none⟩,
 ⟨some 25,.build [.int 0,.int 0] [(0,1,.t 19),(1,1,.t 24)],none⟩,⟨none,.store 2 (.t 4) (.t 25) none,none⟩] (some []))) .skip)))
theorem m56w : fmatch Tryz.prog Tryz.f56 5 [] v56w = true := by kernel_rfl
end Go.Proofs.YtggnmemkhookdaaGreatDoor

namespace Go.Proofs.YtggnmemkhookdaaGreatDoor
open Go Go.V
set_option maxRecDepth 100000
def v7 : VC :=
 (.seq (.ops false [⟨some 0,.mov (.k (.bool false)),none⟩] (some [])) (.seq (.ops false [⟨some 12,.call 18 [],none⟩,⟨some 11,.mov (.t 12),none⟩,
 ⟨some 13,.ext (.t 11) 0,none⟩,⟨some 14,.ext (.t 11) 1,none⟩,⟨some 1,.alloc 1 [.int 0,.sl 1 [] .full,.sl 5 [] .full],none⟩,
 ⟨some 2,.alloc 2 [.int 0,.sl 1 [] .full,.sl 5 [] .full],none⟩,⟨none,.store 3 (.t 1) (.t 13) (some 1),none⟩,
 ⟨none,.store 3 (.t 2) (.t 14) (some 2),none⟩] (some [1])) (.seq (.ops false [⟨some 16,.call 19 [],none⟩,⟨some 15,.mov (.t 16),none⟩,
 ⟨some 17,.ext (.t 15) 0,none⟩,⟨some 18,.ext (.t 15) 1,none⟩,⟨some 3,.alloc 3 [.int 0,.int 0,.sl 1 [] .full,.sl 2 [] .full],none⟩,
 ⟨some 4,.alloc 4 [.int 0,.int 0,.sl 1 [] .full,.sl 2 [] .full],none⟩,⟨none,.store 4 (.t 3) (.t 17) (some 3),none⟩,
 ⟨none,.store 4 (.t 4) (.t 18) (some 4),none⟩] (some [1,3])) (.seq (.ops false [⟨some 20,.load 3 true (.t 1) [],none⟩,
 ⟨some 21,.call 20 [.t 20,.k (.int 1),.k (.int 0)],none⟩,⟨some 19,.mov (.t 21),none⟩,⟨some 22,.ext (.t 19) 0,none⟩,⟨some 23,.ext (.t 19) 1,none⟩,
 ⟨some 5,.alloc 5 [.int 0,.int 0],none⟩,⟨none,.store 2 (.t 5) (.t 22) (some 5),none⟩,
 ⟨some 6,.mov (.t 23),none⟩] (some [3,5,6])) (.seq (.ops false [⟨some 25,.load 4 true (.t 3) [],none⟩,⟨some 26,.call 21 [.t 25,.k (.int 13)],none⟩,
 ⟨some 24,.mov (.t 26),none⟩,⟨some 27,.ext (.t 24) 0,none⟩,⟨some 28,.ext (.t 24) 1,none⟩,⟨some 7,.mov (.t 27),none⟩,
 ⟨some 8,.mov (.t 28),none⟩] (some [5,6,7,8])) (.seq (.ops false [⟨some 30,.call 22 [],none⟩,⟨some 31,.call 10 [.t 30],none⟩,⟨some 29,.mov (.t 31),none⟩,
 ⟨some 32,.ext (.t 29) 0,none⟩,⟨some 33,.ext (.t 29) 1,none⟩,⟨some 9,.mov (.t 32),none⟩,
 ⟨some 10,.mov (.t 33),none⟩] (some [5,6,7,8,9,10])) (.seq (.ops false [⟨some 34,.mov (.t 6),none⟩,⟨some 35,.bin .eql (.t 34) (.k (.int 0)),none⟩,
 ⟨some 36,.mov (.t 35),none⟩,⟨some 37,.mov (.t 8),some (36,true)⟩,⟨some 38,.bin .eql (.t 37) (.k (.int 0)),some (36,true)⟩,
 ⟨some 39,.pick (.t 36) (.t 38) (.k (.bool false)),none⟩,⟨some 40,.mov (.t 39),none⟩,⟨some 41,.mov (.t 10),some (40,true)⟩,
 ⟨some 42,.bin .eql (.t 41) (.k (.int 0)),some (40,true)⟩,⟨some 43,.pick (.t 40) (.t 42) (.k (.bool false)),none⟩,⟨some 44,.mov (.t 43),none⟩,
 ⟨some 45,.load 2 true (.t 5) [],some (44,true)⟩,⟨some 46,.build [.int 0,.int 0] [(1,1,.k (.int 2))],some (44,true)⟩,
 ⟨some 47,.bin (.seq 2) (.t 45) (.t 46),some (44,true)⟩,⟨some 48,.pick (.t 44) (.t 47) (.k (.bool false)),none⟩,⟨some 49,.mov (.t 48),none⟩,
 ⟨some 50,.mov (.t 7),some (49,true)⟩,⟨some 51,.bslice 1 [.k (.int 1),.k (.int 3)],some (49,true)⟩,⟨some 52,.call 23 [.t 50,.t 51],some (49,true)⟩,
 ⟨some 53,.pick (.t 49) (.t 52) (.k (.bool false)),none⟩,⟨some 54,.mov (.t 53),none⟩,⟨some 55,.mov (.t 9),some (54,true)⟩,
 ⟨some 56,.bin .eql (.t 55) (.k (.int 4)),some (54,true)⟩,⟨some 57,.pick (.t 54) (.t 56) (.k (.bool false)),none⟩,
 ⟨some 0,.mov (.t 57),none⟩] (some [0])) .ret)))))))
theorem m7 : fmatch Tryz.prog Tryz.f7 0 [.tmp 0] v7 = true := by kernel_rfl
def v18 : VC :=
 (.seq (.ops false [⟨some 0,.alloc 0 [.int 0,.sl 1 [] .full,.sl 5 [] .full],none⟩,
 ⟨some 1,.alloc 1 [.int 0,.sl 1 [] .full,.sl 5 [] .full],none⟩] (some [0,1])) (.seq (.ops false [⟨some 2,.bslice 1 [.k (.int 3),.k (.int 1)],none⟩,
 ⟨some 3,.bslice 1 [.k (.int 0),.k (.int 2)],none⟩,⟨some 4,.bslice 1 [.t 2,.t 3],none⟩,⟨some 5,.build [.sl 1 [] .sh] [(0,1,.t 4)],none⟩,
 ⟨some 6,.bslice 1 [.k (.int 3),.k (.int 2)],none⟩,⟨some 7,.bslice 1 [.k (.int 1),.k (.int 2)],none⟩,⟨some 8,.bslice 1 [.t 6,.t 7],none⟩,
 ⟨some 9,.build [.sl 1 [] .sh] [(0,1,.t 8)],none⟩,⟨some 10,.bslice 1 [.k (.int 3),.k (.int 1)],none⟩,⟨some 11,.bslice 1 [.k (.int 2),.k (.int 2)],none⟩,
 ⟨some 12,.bslice 1 [.t 10,.t 11],none⟩,⟨some 13,.build [.sl 1 [] .sh] [(0,1,.t 12)],none⟩,⟨some 14,.bslice 1 [.t 5,.t 9,.t 13],none⟩,
 ⟨some 15,.build [.int 0,.sl 1 [] .sh,.sl 5 [] .sh] [(0,1,.k (.int 2)),(1,1,.t 14)],none⟩,
 ⟨none,.store 3 (.t 1) (.t 15) (some 1),none⟩] (some [0,1])) (.seq (.ops true [⟨some 16,.load 3 true (.t 1) [0],none⟩,
 ⟨some 17,.build [.int 0,.int 0,.int 0,.int 0,.int 0] [(0,1,.k (.int 0)),(1,1,.k (.int 2)),(2,1,.k (.int 1)),(3,1,.k (.int 2)),(4,1,.k (.int 3))],none⟩,
 ⟨some 18,.call 43 [.t 16,.t 17],none⟩,⟨some 19,.load 3 true (.t 1) [0],none⟩,⟨none,.store 3 (.t 0) (.t 18) (some 0),none⟩,
 ⟨none,.store 3 (.t 1) (.t 19) (some 1),none⟩] (some [0,1])) .ret)))
theorem m18 : fmatch Tryz.prog Tryz.f18 0 [.cell 0 55, .cell 1 55] v18 = true := by kernel_rfl
def v20 : VC :=
 (.seq (.ops false [⟨some 3,.box 3 3 (.t 0),none⟩,⟨some 4,.box 4 1 (.t 1),none⟩,⟨some 5,.box 5 1 (.t 2),none⟩,⟨some 6,.alloc 6 [.int 0,.int 0],none⟩,
 ⟨some 7,.mov (.k (.int 0)),none⟩] (some [3,4,5,6])) (.seq (.opsB [⟨some 11,.load 3 true (.t 3) [],none⟩,⟨some 12,.load 3 true (.t 3) [],none⟩,
 ⟨some 13,.load 1 false (.t 4) [],none⟩,⟨some 14,.call 45 [.t 12,.t 13],none⟩,⟨some 15,.mov (.t 14),none⟩,⟨some 16,.load 3 true (.t 3) [],some (15,true)⟩,
 ⟨some 17,.load 1 false (.t 5) [],some (15,true)⟩,⟨some 18,.call 45 [.t 16,.t 17],some (15,true)⟩,
 ⟨some 19,.pick (.t 15) (.t 18) (.k (.bool false)),none⟩] ⟨some 20,.calli 44 [.t 11,.t 19],none⟩ [⟨some 10,.mov (.t 20),none⟩,⟨some 21,.ext (.t 10) 0,none⟩,
 ⟨some 22,.ext (.t 10) 1,none⟩,⟨some 8,.mov (.t 21),none⟩,⟨some 9,.mov (.t 22),none⟩] (some [4,5,6,8,9])) (.seq (.seq (.ops false [⟨some 23,.mov (.t 9),none⟩,
 ⟨some 24,.bin .neq (.t 23) (.k (.int 0)),none⟩] (some [4,5,6,8,9,24])) (.cond (.t 24) (.seq (.ops false [⟨some 25,.build [.int 0,.int 0] [],none⟩,
 ⟨some 26,.mov (.t 9),none⟩,⟨none,.store 2 (.t 6) (.t 25) (some 6),none⟩,
 ⟨some 7,.mov (.t 26),none⟩] (some [6,7])) .ret) .skip)) (.seq (.opsN false [⟨some 27,.mov (.t 8),none⟩,⟨some 28,.mkf 47 [.t 4,.t 5],none⟩,
 ⟨some 29,.call 46 [.t 27,.t 28],none⟩,⟨none,.store 2 (.t 6) (.t 29) (some 6),none⟩,⟨some 7,.mov (.k (.int 0)),none⟩] (some [6,7])) .ret))))
theorem m20 : fmatch Tryz.prog Tryz.f20 3 [.cell 6 35, .tmp 7] v20 = true := by kernel_rfl
def v44 : VC :=
 (.seq (.ops false [⟨some 2,.box 2002 3 (.t 0),none⟩,⟨some 4,.mov (.k .nilp),none⟩,
 ⟨some 5,.mov (.k (.int 0)),none⟩] (some [1,2])) (.seq (.ops false [⟨some 9,.load 3 true (.t 2) [],none⟩,⟨some 10,.mov (.t 1),none⟩,
 ⟨some 11,.calli 70 [.t 9,.t 10],none⟩,⟨some 8,.mov (.t 11),none⟩,⟨some 12,.ext (.t 8) 0,none⟩,⟨some 13,.ext (.t 8) 1,none⟩,⟨some 6,.mov (.t 12),none⟩,
 ⟨some 7,.mov (.t 13),none⟩] (some [6,7])) (.seq (.seq (.ops false [⟨some 14,.mov (.t 7),none⟩,⟨some 15,.bin .eql (.t 14) (.k (.int 0)),none⟩,
 ⟨some 16,.mov (.t 15),none⟩,⟨some 17,.mov (.t 6),some (16,true)⟩,⟨some 18,.nilck (.t 17),some (16,true)⟩,⟨some 19,.fld 3 (.t 18),some (16,true)⟩,
 ⟨some 20,.load 1 false (.t 19) [],some (16,true)⟩,⟨some 21,.bin .eql (.t 20) (.k (.un 0)),some (16,true)⟩,
 ⟨some 22,.pick (.t 16) (.t 21) (.k (.bool false)),none⟩] (some [6,7,22])) (.cond (.t 22) (.seq (.ops false [⟨some 4,.mov (.k .nilp),none⟩,
 ⟨some 5,.mov (.k (.int 3)),none⟩] (some [4,5])) .ret) .skip)) (.seq (.ops false [⟨some 23,.mov (.t 6),none⟩,⟨some 24,.mov (.t 7),none⟩,
 ⟨some 4,.mov (.t 23),none⟩,⟨some 5,.mov (.t 24),none⟩] (some [4,5])) .ret))))
theorem m44 : fmatch Tryz.prog Tryz.f44 2 [.tmp 4, .tmp 5] v44 = true := by kernel_rfl
def v45 : VC :=
 (.seq (.ops false [⟨some 2,.box 2 3 (.t 0),none⟩,⟨some 4,.mov (.k (.bool false)),none⟩] (some [1,2])) (.seq (.ops false [⟨some 5,.mov (.t 1),none⟩,
 ⟨some 6,.fld 0 (.t 2),none⟩,⟨some 7,.load 1 false (.t 6) [],none⟩,⟨some 8,.bin .sub (.t 7) (.k (.int 1)),none⟩,⟨some 9,.call 71 [.t 5,.k (.int 0),.t 8],none⟩,
 ⟨some 4,.mov (.t 9),none⟩] (some [4])) .ret))
theorem m45 : fmatch Tryz.prog Tryz.f45 2 [.tmp 4] v45 = true := by kernel_rfl
def v46 : VC :=
 (.seq (.ops false [⟨some 4,.alloc 4 [.int 0,.int 0],none⟩] (some [0,1,4])) (.seq (.ops false [⟨some 5,.alloc 5 [.int 0,.int 0],none⟩] (some [0,1,4,5])) (.seq (.seq (.ops false [⟨some 9,.mov (.t 0),none⟩,
 ⟨some 10,.nilck (.t 9),none⟩,⟨some 11,.fld 3 (.t 10),none⟩,⟨some 12,.load 1 false (.t 11) [],none⟩,⟨some 13,.call 72 [.t 12],none⟩,⟨some 14,.len (.t 13),none⟩,
 ⟨some 15,.mov (.k (.int 0)),none⟩] (some [0,1,4,5,13,14,15])) (.block 0 (.loop (.seq (.ops false [⟨some 16,.bin .lss (.t 15) (.t 14),none⟩] (some [0,1,4,5,13,14,15,16])) (.seq (.cond (.t 16) .skip (.exit 0)) (.seq (.block 1 (.seq (.ops false [⟨some 17,.mov (.t 15),none⟩,
 ⟨some 18,.idx 1 (.t 13) (.t 15),none⟩,⟨some 19,.load 1 false (.t 18) [],none⟩,⟨some 6,.mov (.t 17),none⟩,
 ⟨some 7,.mov (.t 19),none⟩] (some [0,1,4,5,6,7,13,14,15])) (.seq (.ops false [⟨some 20,.mov (.t 1),none⟩,⟨some 21,.mov (.t 0),none⟩,
 ⟨some 22,.nilck (.t 21),none⟩,⟨some 23,.fld 0 (.t 22),none⟩,⟨some 24,.fld 1 (.t 23),none⟩,⟨some 25,.load 1 false (.t 24) [],none⟩,⟨some 26,.mov (.t 7),none⟩,
 ⟨some 27,.idx 1 (.t 25) (.t 26),none⟩,⟨some 28,.load 1 true (.t 27) [],none⟩,⟨some 29,.callv (.t 20) [.t 28],none⟩,
 ⟨some 8,.mov (.t 29),none⟩] (some [0,1,4,5,6,8,13,14,15])) (.seq (.seq (.ops false [⟨some 30,.mov (.t 6),none⟩,
 ⟨some 31,.bin .eql (.t 30) (.k (.int 0)),none⟩] (some [0,1,4,5,8,13,14,15,31])) (.cond (.t 31) (.ops false [⟨some 32,.mov (.t 8),none⟩,
 ⟨some 33,.mov (.t 8),none⟩,⟨some 34,.build [.int 0,.int 0] [(0,1,.t 32),(1,1,.t 33)],none⟩,
 ⟨none,.store 2 (.t 5) (.t 34) (some 5),none⟩] (some [0,1,4,5,8,13,14,15])) .skip)) (.ops false [⟨some 35,.fld 0 (.t 5),none⟩,
 ⟨some 36,.load 1 false (.t 35) [],none⟩,⟨some 37,.mov (.t 8),none⟩,⟨some 38,.min (.t 36) (.t 37),none⟩,⟨some 39,.fld 1 (.t 5),none⟩,
 ⟨some 40,.load 1 false (.t 39) [],none⟩,⟨some 41,.mov (.t 8),none⟩,⟨some 42,.max (.t 40) (.t 41),none⟩,
 ⟨some 43,.build [.int 0,.int 0] [(0,1,.t 38),(1,1,.t 42)],none⟩,
 ⟨none,.store 2 (.t 5) (.t 43) (some 5),none⟩] (some [0,1,4,5,13,14,15])))))) (.ops false [⟨some 44,.bin .add (.t 15) (.k (.int 1)),none⟩,
 ⟨some 15,.mov (.t 44),none⟩] (some [0,1,4,5,13,14,15])))))))) (.seq (.ops false [⟨some 45,.load 2 true (.t 5) [],none⟩,
 ⟨none,.store 2 (.t 4) (.t 45) (some 4),none⟩] (some [4])) .ret))))
theorem m46 : fmatch Tryz.prog Tryz.f46 2 [.cell 4 35] v46 = true := by kernel_rfl
def v47 : VC :=
 (.seq (.ops false [⟨some 3,.box 3 1 (.t 0),none⟩,⟨some 4,.mov (.k (.int 0)),none⟩] (some [1,2,3])) (.seq (.ops true [⟨some 5,.fld 0 (.t 3),none⟩,
 ⟨some 6,.load 1 false (.t 5) [],none⟩,⟨some 7,.load 1 false (.t 1) [],none⟩,⟨some 8,.idx 1 (.t 6) (.t 7),none⟩,⟨some 9,.load 1 false (.t 8) [],none⟩,
 ⟨some 10,.load 1 false (.t 2) [],none⟩,⟨some 11,.idx 1 (.t 9) (.t 10),none⟩,⟨some 12,.load 1 false (.t 11) [],none⟩,
 ⟨some 4,.mov (.t 12),none⟩] (some [4])) .ret))
theorem m47 : fmatch Tryz.prog Tryz.f47 3 [.tmp 4] v47 = true := by kernel_rfl
def v70 : VC :=
 (.seq (.ops false [⟨some 2,.box 3002 3 (.t 0),none⟩,⟨some 4,.mov (.k .nilp),none⟩,
 ⟨some 5,.mov (.k (.int 0)),none⟩] (some [1,2])) (.seq (.seq (.ops false [⟨some 10,.load 3 true (.t 2) [],none⟩,⟨some 11,.call 85 [.t 10],none⟩,
 ⟨some 6,.mov (.t 11),none⟩] (some [1,2,6])) (.seq (.ops false [⟨some 12,.mov (.t 6),none⟩,
 ⟨some 13,.bin .neq (.t 12) (.k (.int 0)),none⟩] (some [1,2,6,13])) (.cond (.t 13) (.seq (.ops false [⟨some 14,.mov (.t 6),none⟩,⟨some 4,.mov (.k .nilp),none⟩,
 ⟨some 5,.mov (.t 14),none⟩] (some [4,5])) .ret) .skip))) (.seq (.seq (.ops false [⟨some 15,.mov (.t 1),none⟩,
 ⟨some 16,.not (.t 15),none⟩] (some [2,16])) (.cond (.t 16) (.seq (.ops false [⟨some 4,.mov (.k .nilp),none⟩,
 ⟨some 5,.mov (.k (.int 1)),none⟩] (some [4,5])) .ret) .skip)) (.seq (.ops false [⟨some 17,.load 3 true (.t 2) [],none⟩,⟨some 18,.mmake 126 1,none⟩,
 ⟨some 19,.build [.int 0,.sl 1 [] .sh,.sl 5 [] .sh,.un 0,.und] [(0,3,.t 17),(4,1,.t 18)],none⟩,⟨some 20,.box 3020 5 (.t 19),none⟩,
 ⟨some 7,.mov (.t 20),none⟩] (some [2,7])) (.seq (.seq (.ops false [⟨some 21,.fld 1 (.t 2),none⟩,⟨some 22,.load 1 false (.t 21) [],none⟩,
 ⟨some 23,.len (.t 22),none⟩,
 ⟨some 24,.mov (.k (.int 0)),none⟩] (some [2,7,22,23,24])) (.block 0 (.loop (.seq (.ops false [⟨some 25,.bin .lss (.t 24) (.t 23),none⟩] (some [2,7,22,23,24,25])) (.seq (.cond (.t 25) .skip (.exit 0)) (.seq (.block 1 (.seq (.ops false [⟨some 26,.mov (.t 24),none⟩,
 ⟨some 27,.idx 1 (.t 22) (.t 24),none⟩,⟨some 28,.load 1 true (.t 27) [],none⟩,⟨some 9,.alloc 3009 [.sl 1 [] .full],none⟩,⟨some 8,.mov (.t 26),none⟩,
 ⟨none,.store 1 (.t 9) (.t 28) (some 3009),none⟩] (some [2,7,8,9,22,23,24])) (.seq (.ops false [⟨some 29,.fld 2 (.t 2),none⟩,
 ⟨some 30,.load 1 false (.t 29) [],none⟩,⟨some 31,.mkf 87 [.t 9],none⟩,
 ⟨some 32,.call 86 [.t 30,.t 31],none⟩] (some [2,7,8,22,23,24,32])) (.cond (.t 32) (.ops true [⟨some 33,.mov (.t 7),none⟩,⟨some 34,.nilck (.t 33),none⟩,
 ⟨some 35,.fld 3 (.t 34),none⟩,⟨some 36,.load 1 false (.t 35) [],none⟩,⟨some 37,.mov (.t 8),none⟩,⟨some 38,.bin .shl (.k (.un 1)) (.t 37),none⟩,
 ⟨some 39,.bin .bor (.t 36) (.t 38),none⟩,⟨some 40,.nilck (.t 33),none⟩,⟨some 41,.fld 3 (.t 40),none⟩,
 ⟨none,.store 1 (.t 41) (.t 39) none,none⟩] (some [2,7,22,23,24])) .skip)))) (.ops false [⟨some 42,.bin .add (.t 24) (.k (.int 1)),none⟩,
 ⟨some 24,.mov (.t 42),none⟩] (some [2,7,22,23,24])))))))) (.seq (.ops false [⟨some 43,.mov (.t 7),none⟩,⟨some 4,.mov (.t 43),none⟩,
 ⟨some 5,.mov (.k (.int 0)),none⟩] (some [4,5])) .ret))))))
theorem m70 : fmatch Tryz.prog Tryz.f70 2 [.tmp 4, .tmp 5] v70 = true := by kernel_rfl
def v71 : VC :=
 (.seq (.ops false [⟨some 6,.mov (.k (.bool false)),none⟩] (some [0,1,2])) (.seq (.ops false [⟨some 7,.mov (.t 1),none⟩,⟨some 8,.mov (.t 0),none⟩,
 ⟨some 9,.bin .leq (.t 7) (.t 8),none⟩,⟨some 10,.mov (.t 9),none⟩,⟨some 11,.mov (.t 0),some (10,true)⟩,⟨some 12,.mov (.t 2),some (10,true)⟩,
 ⟨some 13,.bin .leq (.t 11) (.t 12),some (10,true)⟩,⟨some 14,.pick (.t 10) (.t 13) (.k (.bool false)),none⟩,⟨some 6,.mov (.t 14),none⟩] (some [6])) .ret))
theorem m71 : fmatch Tryz.prog Tryz.f71 3 [.tmp 6] v71 = true := by kernel_rfl
def v72 : VC :=
 (.seq (.ops false [⟨some 2,.nils 2 1,none⟩] (some [0])) (.seq (.ops false [⟨some 3,.nils 3 1,none⟩] (some [0,3])) (.seq (.block 0 (.loop (.seq (.seq (.ops false [⟨some 4,.mov (.t 0),none⟩,
 ⟨some 5,.bin .neq (.t 4) (.k (.un 0)),none⟩] (some [0,3,5])) (.cond (.t 5) .skip (.exit 0))) (.seq (.block 1 (.ops false [⟨some 10,.mov (.t 3),none⟩,
 ⟨some 11,.mov (.t 0),none⟩,⟨some 12,.call 89 [.t 11],none⟩,⟨some 13,.bslice 1 [.t 12],none⟩,⟨some 14,.app 14 1 8 (.t 10) (.t 13),none⟩,
 ⟨some 3,.mov (.t 14),none⟩] (some [0,3]))) (.ops false [⟨some 6,.mov (.t 0),none⟩,⟨some 7,.mov (.t 0),none⟩,⟨some 8,.bin .sub (.t 7) (.k (.un 1)),none⟩,
 ⟨some 9,.bin .band (.t 6) (.t 8),none⟩,⟨some 0,.mov (.t 9),none⟩] (some [0,3])))))) (.seq (.ops false [⟨some 15,.mov (.t 3),none⟩,
 ⟨some 2,.mov (.t 15),none⟩] (some [2])) .ret))))
theorem m72 : fmatch Tryz.prog Tryz.f72 1 [.tmp 2] v72 = true := by kernel_rfl
def v84 : VC :=
 (.seq (.ops false [⟨some 1,.box 1 1 (.t 0),none⟩,
 ⟨some 2,.alloc 2 [.sl 1 [] .full],none⟩] (some [1,2])) (.seq (.ops false [⟨some 3,.alloc 3 [.sl 1 [] .full],none⟩] (some [1,2,3])) (.seq (.seq (.ops false [⟨some 4,.mov (.k (.int 0)),none⟩] (some [1,2,3,4])) (.block 0 (.loop (.seq (.seq (.ops false [⟨some 5,.mov (.t 4),none⟩,
 ⟨some 6,.fld 0 (.t 1),none⟩,⟨some 7,.load 1 false (.t 6) [],none⟩,⟨some 8,.len (.t 7),none⟩,
 ⟨some 9,.bin .lss (.t 5) (.t 8),none⟩] (some [1,2,3,4,9])) (.cond (.t 9) .skip (.exit 0))) (.seq (.block 1 (.ops true [⟨some 12,.fld 0 (.t 3),none⟩,
 ⟨some 13,.load 1 false (.t 12) [],none⟩,⟨some 14,.bslice 1 [],none⟩,⟨some 15,.fld 0 (.t 1),none⟩,⟨some 16,.load 1 false (.t 15) [],none⟩,
 ⟨some 17,.mov (.t 4),none⟩,⟨some 18,.idx 1 (.t 16) (.t 17),none⟩,⟨some 19,.load 1 false (.t 18) [],none⟩,⟨some 20,.app 20 1 8 (.t 14) (.t 19),none⟩,
 ⟨some 21,.bslice 1 [.t 20],none⟩,⟨some 22,.app 22 1 24 (.t 13) (.t 21),none⟩,⟨some 23,.fld 0 (.t 3),none⟩,
 ⟨none,.store 1 (.t 23) (.t 22) (some 3),none⟩] (some [1,2,3,4]))) (.ops false [⟨some 10,.mov (.t 4),none⟩,⟨some 11,.bin .add (.t 10) (.k (.int 1)),none⟩,
 ⟨some 4,.mov (.t 11),none⟩] (some [1,2,3,4]))))))) (.seq (.ops false [⟨some 24,.load 1 true (.t 3) [],none⟩,
 ⟨none,.store 1 (.t 2) (.t 24) (some 2),none⟩] (some [2])) .ret))))
theorem m84 : fmatch Tryz.prog Tryz.f84 1 [.cell 2 94] v84 = true := by kernel_rfl
def v85 : VC :=
 (.seq (.ops false [⟨some 1,.box 1 3 (.t 0),none⟩,⟨some 2,.mov (.k (.int 0)),none⟩] (some [1])) (.seq (.ops false [⟨some 6,.mkf 96 [.t 1],none⟩,
 ⟨some 3,.alloc 3 [.und],none⟩,⟨none,.store 1 (.t 3) (.t 6) (some 3),none⟩] (some [1,3])) (.seq (.ops false [⟨some 7,.mkf 99 [.t 1,.t 3],none⟩,
 ⟨some 4,.mov (.t 7),none⟩] (some [1,4])) (.seq (.ops false [⟨some 8,.mkf 101 [.t 1],none⟩,
 ⟨some 5,.mov (.t 8),none⟩] (some [1,4,5])) (.seq (.seq (.ops false [⟨some 9,.fld 0 (.t 1),none⟩,⟨some 10,.load 1 false (.t 9) [],none⟩,
 ⟨some 11,.call 71 [.t 10,.k (.int 0),.k (.int 4)],none⟩,⟨some 12,.not (.t 11),none⟩,⟨some 13,.mov (.t 12),none⟩,⟨some 14,.fld 1 (.t 1),some (13,false)⟩,
 ⟨some 15,.load 1 false (.t 14) [],some (13,false)⟩,⟨some 16,.len (.t 15),some (13,false)⟩,⟨some 17,.bin .gtr (.t 16) (.k (.int 6)),some (13,false)⟩,
 ⟨some 18,.pick (.t 13) (.k (.bool true)) (.t 17),none⟩,⟨some 19,.mov (.t 18),none⟩,⟨some 20,.fld 1 (.t 1),some (19,false)⟩,
 ⟨some 21,.load 1 false (.t 20) [],some (19,false)⟩,⟨some 22,.mov (.t 4),some (19,false)⟩,⟨some 23,.call 102 [.t 21,.t 22],some (19,false)⟩,
 ⟨some 24,.not (.t 23),some (19,false)⟩,⟨some 25,.pick (.t 19) (.k (.bool true)) (.t 24),none⟩,⟨some 26,.mov (.t 25),none⟩,
 ⟨some 27,.fld 2 (.t 1),some (26,false)⟩,⟨some 28,.load 1 false (.t 27) [],some (26,false)⟩,⟨some 29,.len (.t 28),some (26,false)⟩,
 ⟨some 30,.bin .gtr (.t 29) (.k (.int 6)),some (26,false)⟩,⟨some 31,.pick (.t 26) (.k (.bool true)) (.t 30),none⟩,⟨some 32,.mov (.t 31),none⟩,
 ⟨some 33,.fld 2 (.t 1),some (32,false)⟩,⟨some 34,.load 1 false (.t 33) [],some (32,false)⟩,⟨some 35,.mov (.t 5),some (32,false)⟩,
 ⟨some 36,.call 86 [.t 34,.t 35],some (32,false)⟩,⟨some 37,.not (.t 36),some (32,false)⟩,
 ⟨some 38,.pick (.t 32) (.k (.bool true)) (.t 37),none⟩] (some [38])) (.cond (.t 38) (.seq (.ops false [⟨some 2,.mov (.k (.int 50)),none⟩] (some [2])) .ret) .skip)) (.seq (.ops false [⟨some 2,.mov (.k (.int 0)),none⟩] (some [2])) .ret))))))
theorem m85 : fmatch Tryz.prog Tryz.f85 1 [.tmp 2] v85 = true := by kernel_rfl
def v86 : VC :=
 (.seq (.ops false [⟨some 4,.mov (.k (.bool false)),none⟩] (some [0,1])) (.seq (.ops false [⟨some 5,.mov (.t 0),none⟩,⟨some 6,.mov (.t 1),none⟩,
 ⟨some 7,.call 103 [.t 5,.t 6],none⟩,⟨some 8,.not (.t 7),none⟩,⟨some 4,.mov (.t 8),none⟩] (some [4])) .ret))
theorem m86 : fmatch Tryz.prog Tryz.f86 2 [.tmp 4] v86 = true := by kernel_rfl
def v87 : VC :=
 (.seq (.ops false [⟨some 2,.box 2 5 (.t 0),none⟩,⟨some 3,.mov (.k (.bool false)),none⟩] (some [1,2])) (.seq (.ops false [⟨some 4,.load 1 true (.t 1) [],none⟩,
 ⟨some 5,.load 5 true (.t 2) [],none⟩,⟨some 6,.call 88 [.t 4,.t 5],none⟩,⟨some 7,.not (.t 6),none⟩,⟨some 3,.mov (.t 7),none⟩] (some [3])) .ret))
theorem m87 : fmatch Tryz.prog Tryz.f87 2 [.tmp 3] v87 = true := by kernel_rfl
def v88 : VC :=
 (.seq (.ops false [⟨some 2,.box 2 1 (.t 0),none⟩,⟨some 3,.box 3 5 (.t 1),none⟩,
 ⟨some 4,.mov (.k (.bool false)),none⟩] (some [2,3])) (.seq (.ops true [⟨some 5,.fld 0 (.t 2),none⟩,⟨some 6,.load 1 false (.t 5) [],none⟩,
 ⟨some 7,.fld 0 (.t 3),none⟩,⟨some 8,.load 1 false (.t 7) [],none⟩,⟨some 9,.idx 1 (.t 6) (.t 8),none⟩,⟨some 10,.load 1 false (.t 9) [],none⟩,
 ⟨some 11,.fld 2 (.t 3),none⟩,⟨some 12,.load 1 false (.t 11) [],none⟩,⟨some 13,.idx 1 (.t 10) (.t 12),none⟩,⟨some 14,.load 1 false (.t 13) [],none⟩,
 ⟨some 15,.fld 1 (.t 3),none⟩,⟨some 16,.load 1 false (.t 15) [],none⟩,⟨some 17,.bin .mul (.t 14) (.t 16),none⟩,⟨some 18,.fld 3 (.t 3),none⟩,
 ⟨some 19,.load 1 false (.t 18) [],none⟩,⟨some 20,.fld 4 (.t 3),none⟩,⟨some 21,.load 1 false (.t 20) [],none⟩,⟨some 22,.call 71 [.t 17,.t 19,.t 21],none⟩,
 ⟨some 4,.mov (.t 22),none⟩] (some [4])) .ret))
theorem m88 : fmatch Tryz.prog Tryz.f88 2 [.tmp 4] v88 = true := by kernel_rfl
def v96 : VC :=
 (.seq (.ops false [⟨some 3,.mov (.k (.bool false)),none⟩] (some [0,1])) (.seq (.ops false [⟨some 4,.mov (.t 0),none⟩,⟨some 5,.len (.t 4),none⟩,
 ⟨some 6,.fld 0 (.t 1),none⟩,⟨some 7,.load 1 false (.t 6) [],none⟩,⟨some 8,.bin .neq (.t 5) (.t 7),none⟩,⟨some 9,.mov (.t 8),none⟩,
 ⟨some 10,.mov (.t 0),some (9,false)⟩,⟨some 11,.call 97 [.t 10,.k (.clo 98 [] [])],some (9,false)⟩,⟨some 12,.not (.t 11),some (9,false)⟩,
 ⟨some 13,.pick (.t 9) (.k (.bool true)) (.t 12),none⟩,⟨some 3,.mov (.t 13),none⟩] (some [3])) .ret))
theorem m96 : fmatch Tryz.prog Tryz.f96 2 [.tmp 3] v96 = true := by kernel_rfl
def v97 : VC :=
 (.seq (.ops false [⟨some 4,.mov (.k (.bool false)),none⟩] (some [0,1])) (.seq (.ops false [⟨some 5,.mov (.t 0),none⟩,⟨some 6,.mov (.t 1),none⟩,
 ⟨some 7,.call 107 [.t 5,.t 6],none⟩,⟨some 8,.not (.t 7),none⟩,⟨some 4,.mov (.t 8),none⟩] (some [4])) .ret))
theorem m97 : fmatch Tryz.prog Tryz.f97 2 [.tmp 4] v97 = true := by kernel_rfl
def v98 : VC :=
 (.seq (.ops false [⟨some 2,.mov (.k (.bool false)),none⟩] (some [0])) (.seq (.ops false [⟨some 3,.mov (.t 0),none⟩,
 ⟨some 4,.call 71 [.t 3,.k (.int 0),.k (.int 9)],none⟩,⟨some 5,.not (.t 4),none⟩,⟨some 2,.mov (.t 5),none⟩] (some [2])) .ret))
theorem m98 : fmatch Tryz.prog Tryz.f98 1 [.tmp 2] v98 = true := by kernel_rfl
def v99 : VC :=
 (.seq (.ops false [⟨some 3,.box 3 1 (.t 0),none⟩,⟨some 4,.mov (.k (.bool false)),none⟩] (some [1,2,3])) (.seq (.ops false [⟨some 5,.fld 0 (.t 3),none⟩,
 ⟨some 6,.load 1 false (.t 5) [],none⟩,⟨some 7,.len (.t 6),none⟩,⟨some 8,.fld 0 (.t 1),none⟩,⟨some 9,.load 1 false (.t 8) [],none⟩,
 ⟨some 10,.bin .neq (.t 7) (.t 9),none⟩,⟨some 11,.mov (.t 10),none⟩,⟨some 12,.fld 0 (.t 3),some (11,false)⟩,⟨some 13,.load 1 false (.t 12) [],some (11,false)⟩,
 ⟨some 14,.load 1 false (.t 2) [],some (11,false)⟩,⟨some 15,.call 100 [.t 13,.t 14],some (11,false)⟩,⟨some 16,.not (.t 15),some (11,false)⟩,
 ⟨some 17,.pick (.t 11) (.k (.bool true)) (.t 16),none⟩,⟨some 4,.mov (.t 17),none⟩] (some [4])) .ret))
theorem m99 : fmatch Tryz.prog Tryz.f99 3 [.tmp 4] v99 = true := by kernel_rfl
def v100 : VC :=
 (.seq (.ops false [⟨some 4,.mov (.k (.bool false)),none⟩] (some [0,1])) (.seq (.ops false [⟨some 5,.mov (.t 0),none⟩,⟨some 6,.mov (.t 1),none⟩,
 ⟨some 7,.call 108 [.t 5,.t 6],none⟩,⟨some 8,.not (.t 7),none⟩,⟨some 4,.mov (.t 8),none⟩] (some [4])) .ret))
theorem m100 : fmatch Tryz.prog Tryz.f100 2 [.tmp 4] v100 = true := by kernel_rfl
def v101 : VC :=
 (.seq (.ops false [⟨some 2,.box 2 5 (.t 0),none⟩,⟨some 3,.mov (.k (.bool false)),none⟩] (some [1,2])) (.seq (.ops false [⟨some 4,.load 3 true (.t 1) [],none⟩,
 ⟨some 5,.fld 0 (.t 2),none⟩,⟨some 6,.load 1 false (.t 5) [],none⟩,⟨some 7,.call 45 [.t 4,.t 6],none⟩,⟨some 8,.not (.t 7),none⟩,⟨some 9,.mov (.t 8),none⟩,
 ⟨some 10,.load 3 true (.t 1) [],some (9,false)⟩,⟨some 11,.fld 2 (.t 2),some (9,false)⟩,⟨some 12,.load 1 false (.t 11) [],some (9,false)⟩,
 ⟨some 13,.call 45 [.t 10,.t 12],some (9,false)⟩,⟨some 14,.not (.t 13),some (9,false)⟩,⟨some 15,.pick (.t 9) (.k (.bool true)) (.t 14),none⟩,
 ⟨some 16,.mov (.t 15),none⟩,⟨some 17,.fld 1 (.t 2),some (16,false)⟩,⟨some 18,.load 1 false (.t 17) [],some (16,false)⟩,
 ⟨some 19,.call 71 [.t 18,.k (.int 1),.k (.int 9)],some (16,false)⟩,⟨some 20,.not (.t 19),some (16,false)⟩,
 ⟨some 21,.pick (.t 16) (.k (.bool true)) (.t 20),none⟩,⟨some 22,.mov (.t 21),none⟩,⟨some 23,.fld 3 (.t 2),some (22,false)⟩,
 ⟨some 24,.load 1 false (.t 23) [],some (22,false)⟩,⟨some 25,.fld 4 (.t 2),some (22,false)⟩,⟨some 26,.load 1 false (.t 25) [],some (22,false)⟩,
 ⟨some 27,.call 71 [.t 24,.k (.int 0),.t 26],some (22,false)⟩,⟨some 28,.not (.t 27),some (22,false)⟩,⟨some 29,.pick (.t 22) (.k (.bool true)) (.t 28),none⟩,
 ⟨some 30,.mov (.t 29),none⟩,⟨some 31,.fld 4 (.t 2),some (30,false)⟩,⟨some 32,.load 1 false (.t 31) [],some (30,false)⟩,
 ⟨some 33,.bin .gtr (.t 32) (.k (.int 99)),some (30,false)⟩,⟨some 34,.pick (.t 30) (.k (.bool true)) (.t 33),none⟩,⟨some 3,.mov (.t 34),none⟩] (some [3])) .ret))
theorem m101 : fmatch Tryz.prog Tryz.f101 2 [.tmp 3] v101 = true := by kernel_rfl
def v102 : VC :=
 (.seq (.ops false [⟨some 4,.mov (.k (.bool false)),none⟩] (some [0,1])) (.seq (.ops false [⟨some 5,.mov (.t 0),none⟩,⟨some 6,.mov (.t 1),none⟩,
 ⟨some 7,.call 109 [.t 5,.t 6],none⟩,⟨some 8,.not (.t 7),none⟩,⟨some 4,.mov (.t 8),none⟩] (some [4])) .ret))
theorem m102 : fmatch Tryz.prog Tryz.f102 2 [.tmp 4] v102 = true := by kernel_rfl
def v103 : VC :=
 (.seq (.ops false [⟨some 4,.mov (.k (.bool false)),none⟩] (some [0,1])) (.seq (.ops false [⟨some 5,.mov (.t 0),none⟩,⟨some 6,.mov (.t 1),none⟩,
 ⟨some 7,.call 110 [.t 5,.t 6],none⟩,⟨some 8,.bin .geq (.t 7) (.k (.int 0)),none⟩,⟨some 4,.mov (.t 8),none⟩] (some [4])) .ret))
theorem m103 : fmatch Tryz.prog Tryz.f103 2 [.tmp 4] v103 = true := by kernel_rfl
def v108 : VC :=
 (.seq (.ops false [⟨some 4,.mov (.k (.bool false)),none⟩] (some [0,1])) (.seq (.ops false [⟨some 5,.mov (.t 0),none⟩,⟨some 6,.mov (.t 1),none⟩,
 ⟨some 7,.call 112 [.t 5,.t 6],none⟩,⟨some 8,.bin .geq (.t 7) (.k (.int 0)),none⟩,⟨some 4,.mov (.t 8),none⟩] (some [4])) .ret))
theorem m108 : fmatch Tryz.prog Tryz.f108 2 [.tmp 4] v108 = true := by kernel_rfl
def v109 : VC :=
 (.seq (.ops false [⟨some 4,.mov (.k (.bool false)),none⟩] (some [0,1])) (.seq (.ops false [⟨some 5,.mov (.t 0),none⟩,⟨some 6,.mov (.t 1),none⟩,
 ⟨some 7,.call 113 [.t 5,.t 6],none⟩,⟨some 8,.bin .geq (.t 7) (.k (.int 0)),none⟩,⟨some 4,.mov (.t 8),none⟩] (some [4])) .ret))
theorem m109 : fmatch Tryz.prog Tryz.f109 2 [.tmp 4] v109 = true := by kernel_rfl
def v110 : VC :=
 (.seq (.ops false [⟨some 4,.mov (.k (.int 0)),none⟩] (some [0,1])) (.seq (.seq (.ops false [⟨some 6,.mov (.t 0),none⟩,⟨some 7,.len (.t 6),none⟩,
 ⟨some 8,.mov (.k (.int 0)),none⟩] (some [0,1,7,8])) (.block 0 (.loop (.seq (.ops false [⟨some 9,.bin .lss (.t 8) (.t 7),none⟩] (some [0,1,7,8,9])) (.seq (.cond (.t 9) .skip (.exit 0)) (.seq (.block 1 (.seq (.ops false [⟨some 10,.mov (.t 8),none⟩,
 ⟨some 5,.mov (.t 10),none⟩] (some [0,1,5,7,8])) (.seq (.ops false [⟨some 11,.mov (.t 1),none⟩,⟨some 12,.mov (.t 0),none⟩,⟨some 13,.mov (.t 5),none⟩,
 ⟨some 14,.idx 5 (.t 12) (.t 13),none⟩,⟨some 15,.load 5 true (.t 14) [],none⟩,
 ⟨some 16,.callv (.t 11) [.t 15],none⟩] (some [0,1,5,7,8,16])) (.cond (.t 16) (.seq (.ops false [⟨some 17,.mov (.t 5),none⟩,
 ⟨some 4,.mov (.t 17),none⟩] (some [4])) .ret) .skip)))) (.ops false [⟨some 18,.bin .add (.t 8) (.k (.int 1)),none⟩,
 ⟨some 8,.mov (.t 18),none⟩] (some [0,1,7,8])))))))) (.seq (.ops false [⟨some 4,.mov (.k (.int (-1))),none⟩] (some [4])) .ret)))
theorem m110 : fmatch Tryz.prog Tryz.f110 2 [.tmp 4] v110 = true := by kernel_rfl
def v112 : VC :=
 (.seq (.ops false [⟨some 4,.mov (.k (.int 0)),none⟩] (some [0,1])) (.seq (.seq (.ops false [⟨some 6,.mov (.t 0),none⟩,⟨some 7,.len (.t 6),none⟩,
 ⟨some 8,.mov (.k (.int 0)),none⟩] (some [0,1,7,8])) (.block 0 (.loop (.seq (.ops false [⟨some 9,.bin .lss (.t 8) (.t 7),none⟩] (some [0,1,7,8,9])) (.seq (.cond (.t 9) .skip (.exit 0)) (.seq (.block 1 (.seq (.ops false [⟨some 10,.mov (.t 8),none⟩,
 ⟨some 5,.mov (.t 10),none⟩] (some [0,1,5,7,8])) (.seq (.ops false [⟨some 11,.mov (.t 1),none⟩,⟨some 12,.mov (.t 0),none⟩,⟨some 13,.mov (.t 5),none⟩,
 ⟨some 14,.idx 1 (.t 12) (.t 13),none⟩,⟨some 15,.load 1 false (.t 14) [],none⟩,
 ⟨some 16,.callv (.t 11) [.t 15],none⟩] (some [0,1,5,7,8,16])) (.cond (.t 16) (.seq (.ops false [⟨some 17,.mov (.t 5),none⟩,
 ⟨some 4,.mov (.t 17),none⟩] (some [4])) .ret) .skip)))) (.ops false [⟨some 18,.bin .add (.t 8) (.k (.int 1)),none⟩,
 ⟨some 8,.mov (.t 18),none⟩] (some [0,1,7,8])))))))) (.seq (.ops false [⟨some 4,.mov (.k (.int (-1))),none⟩] (some [4])) .ret)))
theorem m112 : fmatch Tryz.prog Tryz.f112 2 [.tmp 4] v112 = true := by kernel_rfl
def v113 : VC :=
 (.seq (.ops false [⟨some 4,.mov (.k (.int 0)),none⟩] (some [0,1])) (.seq (.seq (.ops false [⟨some 6,.mov (.t 0),none⟩,⟨some 7,.len (.t 6),none⟩,
 ⟨some 8,.mov (.k (.int 0)),none⟩] (some [0,1,7,8])) (.block 0 (.loop (.seq (.ops false [⟨some 9,.bin .lss (.t 8) (.t 7),none⟩] (some [0,1,7,8,9])) (.seq (.cond (.t 9) .skip (.exit 0)) (.seq (.block 1 (.seq (.ops false [⟨some 10,.mov (.t 8),none⟩,
 ⟨some 5,.mov (.t 10),none⟩] (some [0,1,5,7,8])) (.seq (.ops false [⟨some 11,.mov (.t 1),none⟩,⟨some 12,.mov (.t 0),none⟩,⟨some 13,.mov (.t 5),none⟩,
 ⟨some 14,.idx 1 (.t 12) (.t 13),none⟩,⟨some 15,.load 1 true (.t 14) [],none⟩,
 ⟨some 16,.callv (.t 11) [.t 15],none⟩] (some [0,1,5,7,8,16])) (.cond (.t 16) (.seq (.ops false [⟨some 17,.mov (.t 5),none⟩,
 ⟨some 4,.mov (.t 17),none⟩] (some [4])) .ret) .skip)))) (.ops false [⟨some 18,.bin .add (.t 8) (.k (.int 1)),none⟩,
 ⟨some 8,.mov (.t 18),none⟩] (some [0,1,7,8])))))))) (.seq (.ops false [⟨some 4,.mov (.k (.int (-1))),none⟩] (some [4])) .ret)))
theorem m113 : fmatch Tryz.prog Tryz.f113 2 [.tmp 4] v113 = true := by kernel_rfl
def v69i : VC :=
 (.seq (.ops false [⟨some 1,.box 4001 3 (.t 0),none⟩,
 ⟨some 2,.alloc 4002 [.int 0,.sl 1 [] .full,.sl 5 [] .full],none⟩] (some [1,2])) (.seq (.ops true [⟨some 5,.fld 0 (.t 1),none⟩,
 ⟨some 6,.load 1 false (.t 5) [4003,1048576],none⟩,⟨some 7,.bslice 5 [],none⟩,⟨some 8,.fld 2 (.t 1),none⟩,⟨some 9,.load 1 false (.t 8) [4003,1048576],none⟩,
 ⟨some 10,.appG 1 none 5 40 true (.t 7) (.t 9),none⟩,⟨some 11,.buildW [.int 0,.sl 1 [] .full,.sl 5 [] .full] [(0,1,.t 6),(2,1,.t 10)],none⟩,
 ⟨some 3,.alloc 4003 [.int 0,.sl 1 [] .full,.sl 5 [] .full],none⟩,
 ⟨none,.store 3 (.t 3) (.t 11) (some 4003),none⟩] (some [1,2,3])) (.seq (.seq (.ops false [⟨some 4,.mov (.k (.int 0)),none⟩] (some [1,2,3,4])) (.block 0 (.loop (.seq (.seq (.ops false [⟨some 12,.mov (.t 4),none⟩,
 ⟨some 13,.fld 1 (.t 1),none⟩,⟨some 14,.load 1 false (.t 13) [],none⟩,⟨some 15,.len (.t 14),none⟩,
 ⟨some 16,.bin .lss (.t 12) (.t 15),none⟩] (some [1,2,3,4,16])) (.cond (.t 16) .skip (.exit 0))) (.seq (.block 1 (.ops true [⟨some 19,.fld 1 (.t 3),none⟩,
 ⟨some 20,.load 1 false (.t 19) [],none⟩,⟨some 21,.fld 1 (.t 1),none⟩,⟨some 22,.load 1 false (.t 21) [],none⟩,⟨some 23,.mov (.t 4),none⟩,
 ⟨some 24,.idx 1 (.t 22) (.t 23),none⟩,⟨some 25,.load 1 true (.t 24) [],none⟩,⟨some 26,.call 84 [.t 25],none⟩,⟨some 27,.bslice 1 [.t 26],none⟩,
 ⟨some 28,.app 4028 1 24 (.t 20) (.t 27),none⟩,⟨some 29,.fld 1 (.t 3),none⟩,
 ⟨none,.store 1 (.t 29) (.t 28) (some 4003),none⟩] (some [1,2,3,4]))) (.ops false [⟨some 17,.mov (.t 4),none⟩,⟨some 18,.bin .add (.t 17) (.k (.int 1)),none⟩,
 ⟨some 4,.mov (.t 18),none⟩] (some [1,2,3,4]))))))) (.seq (.ops false [⟨some 30,.loadW 3 (.t 3) [],none⟩,
 ⟨none,.store 3 (.t 2) (.t 30) (some 4002),none⟩] (some [2])) .ret))))
theorem m69i : fmatch Tryz.prog Tryz.f69 1 [.cell 2 55] v69i = true := by kernel_rfl
def v43i : VC :=
 (.seq (.ops false [⟨some 2,.box 2 3 (.t 0),none⟩,⟨some 3,.box 3 5 (.t 1),none⟩,
 ⟨some 4,.alloc 4 [.int 0,.sl 1 [] .full,.sl 5 [] .full],none⟩] (some [2,3,4])) (.seq (.ops false [⟨some 6,.load 3 true (.t 2) [],none⟩,
 ⟨some 7,.calli 69 [.t 6],none⟩,⟨some 5,.alloc 5 [.int 0,.sl 1 [] .full,.sl 5 [] .full],none⟩,
 ⟨none,.store 3 (.t 5) (.t 7) (some 5),none⟩] (some [3,4,5])) (.seq (.ops false [⟨some 8,.fld 2 (.t 5),none⟩,⟨some 9,.load 1 false (.t 8) [],none⟩,
 ⟨some 10,.load 5 true (.t 3) [],none⟩,⟨some 11,.bslice 5 [.t 10],none⟩,⟨some 12,.appG 1 none 5 40 true (.t 9) (.t 11),none⟩,⟨some 13,.fld 2 (.t 5),none⟩,
 ⟨none,.store 1 (.t 13) (.t 12) (some 5),none⟩] (some [4,5])) (.seq (.opsN false [⟨some 14,.loadW 3 (.t 5) [],none⟩,
 ⟨none,.store 3 (.t 4) (.t 14) (some 4),none⟩] (some [4])) .ret))))
theorem m43i : fmatch Tryz.prog Tryz.f43 2 [.cell 4 55] v43i = true := by kernel_rfl
end Go.Proofs.YtggnmemkhookdaaGreatDoor

namespace Go.Proofs.YtggnmemkhookdaaGreatDoor
open Go Go.V
set_option maxRecDepth 100000
def v3f : VC :=
 (.seq (.ops false [⟨some 2,.box 2 4 (.t 0),none⟩,
 ⟨some 4,.mov (.k (.bool false)),none⟩] (some [1,2])) (.seq (.seq (.ops false [⟨some 23,.load 4 true (.t 2) [],none⟩,⟨some 24,.call 4 [.t 23],none⟩,
 ⟨some 25,.mov (.t 24),none⟩,⟨some 26,.load 4 true (.t 2) [],some (25,false)⟩,⟨some 27,.call 5 [.t 26],some (25,false)⟩,
 ⟨some 28,.bin .neq (.t 27) (.k (.int 0)),some (25,false)⟩,⟨some 29,.pick (.t 25) (.k (.bool true)) (.t 28),none⟩,⟨some 30,.mov (.t 29),none⟩,
 ⟨some 31,.fld 2 (.t 2),some (30,false)⟩,⟨some 32,.load 1 false (.t 31) [],some (30,false)⟩,⟨some 33,.len (.t 32),some (30,false)⟩,
 ⟨some 34,.bin .eql (.t 33) (.k (.int 0)),some (30,false)⟩,⟨some 35,.pick (.t 30) (.k (.bool true)) (.t 34),none⟩,⟨some 36,.mov (.t 35),none⟩,
 ⟨some 37,.mov (.t 1),some (36,false)⟩,⟨some 38,.call 6 [.t 37,.k (.int 0),.k (.int 10)],some (36,false)⟩,⟨some 39,.not (.t 38),some (36,false)⟩,
 ⟨some 40,.pick (.t 36) (.k (.bool true)) (.t 39),none⟩] (some [1,2,40])) (.cond (.t 40) (.seq (.ops false [⟨some 41,.call 7 [],none⟩,
 ⟨some 4,.mov (.t 41),none⟩] (some [4])) .ret) .skip)) (.seq (.ops false [⟨some 42,.fld 0 (.t 2),none⟩,⟨some 43,.load 1 false (.t 42) [],none⟩,
 ⟨some 44,.fld 1 (.t 2),none⟩,⟨some 45,.load 1 false (.t 44) [],none⟩,⟨some 46,.mov (.t 1),none⟩,
 ⟨some 47,.build [.int 0,.int 0,.int 0,.int 0,.sl 3 [] .full,.sl 3 [] .full] [(0,1,.t 43),(1,1,.t 45),(2,1,.k (.int 1)),(3,1,.t 46)],none⟩,
 ⟨some 5,.alloc 5 [.int 0,.int 0,.int 0,.int 0,.sl 3 [] .full,.sl 3 [] .full],none⟩,
 ⟨none,.store 6 (.t 5) (.t 47) (some 5),none⟩] (some [1,2,5])) (.seq (.ops false [⟨some 48,.build [.int 0,.int 0] [],none⟩,
 ⟨some 6,.alloc 6 [.int 0,.int 0],none⟩,
 ⟨none,.store 2 (.t 6) (.t 48) (some 6),none⟩] (some [1,2,5,6])) (.seq (.seq (.ops false [⟨some 7,.mov (.k (.int 0)),none⟩] (some [1,2,5,6,7])) (.block 0 (.loop (.seq (.seq (.ops false [⟨some 49,.mov (.t 7),none⟩,
 ⟨some 50,.fld 2 (.t 2),none⟩,⟨some 51,.load 1 false (.t 50) [],none⟩,⟨some 52,.len (.t 51),none⟩,
 ⟨some 53,.bin .lss (.t 49) (.t 52),none⟩] (some [1,2,5,6,7,53])) (.cond (.t 53) .skip (.exit 0))) (.seq (.block 1 (.seq (.ops false [⟨some 56,.mov (.t 7),none⟩,
 ⟨some 57,.mov (.t 1),none⟩,⟨some 58,.bin .add (.t 57) (.k (.int 1)),none⟩,⟨some 59,.bin .mul (.t 56) (.t 58),none⟩,⟨some 60,.bslice 2 [],none⟩,
 ⟨some 61,.fld 2 (.t 2),none⟩,⟨some 62,.load 1 false (.t 61) [],none⟩,⟨some 63,.mov (.t 7),none⟩,⟨some 64,.idx 1 (.t 62) (.t 63),none⟩,
 ⟨some 65,.load 1 false (.t 64) [],none⟩,⟨some 66,.app 66 2 16 (.t 60) (.t 65),none⟩,
 ⟨some 67,.build [.int 0,.int 0,.sl 2 [] .full] [(0,1,.t 59),(2,1,.t 66)],none⟩,⟨some 8,.alloc 8 [.int 0,.int 0,.sl 2 [] .full],none⟩,
 ⟨none,.store 3 (.t 8) (.t 67) (some 8),none⟩] (some [1,2,5,6,7,8])) (.seq (.ops false [⟨some 68,.mov (.t 7),none⟩,⟨some 69,.mov (.t 1),none⟩,
 ⟨some 70,.bin .add (.t 69) (.k (.int 1)),none⟩,⟨some 71,.bin .mul (.t 68) (.t 70),none⟩,⟨some 72,.bslice 2 [],none⟩,⟨some 73,.fld 2 (.t 2),none⟩,
 ⟨some 74,.load 1 false (.t 73) [],none⟩,⟨some 75,.mov (.t 7),none⟩,⟨some 76,.idx 1 (.t 74) (.t 75),none⟩,⟨some 77,.load 1 false (.t 76) [],none⟩,
 ⟨some 78,.app 78 2 16 (.t 72) (.t 77),none⟩,⟨some 79,.build [.int 0,.int 0,.sl 2 [] .full] [(0,1,.t 71),(2,1,.t 78)],none⟩,
 ⟨some 9,.alloc 9 [.int 0,.int 0,.sl 2 [] .full],none⟩,
 ⟨none,.store 3 (.t 9) (.t 79) (some 9),none⟩] (some [1,2,5,6,7,8,9])) (.seq (.ops true [⟨some 80,.fld 4 (.t 5),none⟩,⟨some 81,.load 1 false (.t 80) [],none⟩,
 ⟨some 82,.load 3 true (.t 8) [],none⟩,⟨some 83,.bslice 3 [.t 82],none⟩,⟨some 84,.app 84 3 40 (.t 81) (.t 83),none⟩,⟨some 85,.fld 5 (.t 5),none⟩,
 ⟨some 86,.load 1 false (.t 85) [],none⟩,⟨some 87,.load 3 true (.t 9) [],none⟩,⟨some 88,.bslice 3 [.t 87],none⟩,⟨some 89,.app 89 3 40 (.t 86) (.t 88),none⟩,
 ⟨some 90,.fld 4 (.t 5),none⟩,⟨none,.store 1 (.t 90) (.t 84) (some 5),none⟩,⟨some 91,.fld 5 (.t 5),none⟩,
 ⟨none,.store 1 (.t 91) (.t 89) (some 5),none⟩] (some [1,2,5,6,7])) (.seq (.ops false [⟨some 93,.load 4 true (.t 2) [],none⟩,⟨some 94,.mov (.t 7),none⟩,
 ⟨some 95,.call 8 [.t 93,.t 94],none⟩,⟨some 92,.mov (.t 95),none⟩,⟨some 96,.ext (.t 92) 0,none⟩,⟨some 97,.ext (.t 92) 1,none⟩,
 ⟨some 10,.alloc 10 [.int 0,.int 0],none⟩,⟨none,.store 2 (.t 10) (.t 96) (some 10),none⟩,
 ⟨some 11,.mov (.t 97),none⟩] (some [1,2,5,6,7,10,11])) (.seq (.seq (.ops true [⟨some 98,.mov (.t 11),none⟩,⟨some 99,.bin .neq (.t 98) (.k (.int 0)),none⟩,
 ⟨some 100,.mov (.t 99),none⟩,⟨some 101,.fld 0 (.t 10),some (100,false)⟩,⟨some 102,.load 1 false (.t 101) [],some (100,false)⟩,
 ⟨some 103,.bin .lss (.t 102) (.k (.int 0)),some (100,false)⟩,⟨some 104,.pick (.t 100) (.k (.bool true)) (.t 103),none⟩,⟨some 105,.mov (.t 104),none⟩,
 ⟨some 106,.fld 0 (.t 10),some (105,false)⟩,⟨some 107,.load 1 false (.t 106) [],some (105,false)⟩,⟨some 108,.fld 1 (.t 10),some (105,false)⟩,
 ⟨some 109,.load 1 false (.t 108) [],some (105,false)⟩,⟨some 110,.bin .gtr (.t 107) (.t 109),some (105,false)⟩,
 ⟨some 111,.pick (.t 105) (.k (.bool true)) (.t 110),none⟩,⟨some 112,.mov (.t 111),none⟩,⟨some 113,.fld 1 (.t 10),some (112,false)⟩,
 ⟨some 114,.load 1 false (.t 113) [],some (112,false)⟩,⟨some 115,.load 4 true (.t 2) [],some (112,false)⟩,⟨some 116,.call 9 [.t 115],some (112,false)⟩,
 ⟨some 117,.bin .geq (.t 114) (.t 116),some (112,false)⟩,
 ⟨some 118,.pick (.t 112) (.k (.bool true)) (.t 117),none⟩] (some [1,2,5,6,7,10,118])) (.cond (.t 118) (.seq (.ops false [⟨some 4,.mov (.k (.bool false)),none⟩] (some [4])) .ret) .skip)) (.ops false [⟨some 119,.fld 0 (.t 6),none⟩,
 ⟨some 120,.load 1 false (.t 119) [],none⟩,⟨some 121,.fld 0 (.t 10),none⟩,⟨some 122,.load 1 false (.t 121) [],none⟩,⟨some 123,.bin .add (.t 120) (.t 122),none⟩,
 ⟨some 124,.fld 1 (.t 6),none⟩,⟨some 125,.load 1 false (.t 124) [],none⟩,⟨some 126,.fld 1 (.t 10),none⟩,⟨some 127,.load 1 false (.t 126) [],none⟩,
 ⟨some 128,.bin .add (.t 125) (.t 127),none⟩,⟨some 129,.build [.int 0,.int 0] [(0,1,.t 123),(1,1,.t 128)],none⟩,
 ⟨none,.store 2 (.t 6) (.t 129) (some 6),none⟩] (some [1,2,5,6,7])))))))) (.ops false [⟨some 54,.mov (.t 7),none⟩,⟨some 55,.bin .add (.t 54) (.k (.int 1)),none⟩,
 ⟨some 7,.mov (.t 55),none⟩] (some [1,2,5,6,7]))))))) (.seq (.ops false [⟨some 131,.load 6 true (.t 5) [],none⟩,⟨some 132,.call 10 [.t 131],none⟩,
 ⟨some 130,.mov (.t 132),none⟩,⟨some 133,.ext (.t 130) 0,none⟩,⟨some 134,.ext (.t 130) 1,none⟩,⟨some 12,.mov (.t 133),none⟩,
 ⟨some 13,.mov (.t 134),none⟩] (some [2,5,6,12,13])) (.seq (.ops false [⟨some 136,.load 6 true (.t 5) [],none⟩,⟨some 137,.call 11 [.t 136],none⟩,
 ⟨some 135,.mov (.t 137),none⟩,⟨some 138,.ext (.t 135) 0,none⟩,⟨some 139,.ext (.t 135) 1,none⟩,⟨some 14,.mov (.t 138),none⟩,
 ⟨some 15,.mov (.t 139),none⟩] (some [2,5,6,12,13,14,15])) (.seq (.ops false [⟨some 141,.load 6 true (.t 5) [],none⟩,
 ⟨some 142,.call 12 [.t 141,.k (.int 0)],none⟩,⟨some 140,.mov (.t 142),none⟩,⟨some 143,.ext (.t 140) 0,none⟩,⟨some 144,.ext (.t 140) 1,none⟩,
 ⟨some 16,.alloc 16 [.int 0,.int 0],none⟩,⟨none,.store 2 (.t 16) (.t 143) (some 16),none⟩,
 ⟨some 17,.mov (.t 144),none⟩] (some [2,5,6,12,13,14,15,16,17])) (.seq (.ops false [⟨some 146,.load 6 true (.t 5) [],none⟩,
 ⟨some 147,.call 13 [.t 146,.k (.int 0)],none⟩,⟨some 145,.mov (.t 147),none⟩,⟨some 148,.ext (.t 145) 0,none⟩,⟨some 149,.ext (.t 145) 1,none⟩,
 ⟨some 18,.mov (.t 148),none⟩,⟨some 19,.mov (.t 149),none⟩] (some [2,6,12,13,14,15,16,17,18,19])) (.seq (.seq (.ops false [⟨some 150,.mov (.t 13),none⟩,
 ⟨some 151,.bin .neq (.t 150) (.k (.int 0)),none⟩,⟨some 152,.mov (.t 151),none⟩,⟨some 153,.mov (.t 15),some (152,false)⟩,
 ⟨some 154,.bin .neq (.t 153) (.k (.int 0)),some (152,false)⟩,⟨some 155,.pick (.t 152) (.k (.bool true)) (.t 154),none⟩,⟨some 156,.mov (.t 155),none⟩,
 ⟨some 157,.mov (.t 17),some (156,false)⟩,⟨some 158,.bin .neq (.t 157) (.k (.int 0)),some (156,false)⟩,⟨some 159,.pick (.t 156) (.k (.bool true)) (.t 158),none⟩,
 ⟨some 160,.mov (.t 159),none⟩,⟨some 161,.mov (.t 19),some (160,false)⟩,⟨some 162,.bin .neq (.t 161) (.k (.int 0)),some (160,false)⟩,
 ⟨some 163,.pick (.t 160) (.k (.bool true)) (.t 162),none⟩,⟨some 164,.mov (.t 163),none⟩,⟨some 165,.mov (.t 12),some (164,false)⟩,
 ⟨some 166,.fld 2 (.t 2),some (164,false)⟩,⟨some 167,.load 1 false (.t 166) [],some (164,false)⟩,⟨some 168,.len (.t 167),some (164,false)⟩,
 ⟨some 169,.bin .neq (.t 165) (.t 168),some (164,false)⟩,⟨some 170,.pick (.t 164) (.k (.bool true)) (.t 169),none⟩,⟨some 171,.mov (.t 170),none⟩,
 ⟨some 172,.mov (.t 14),some (171,false)⟩,⟨some 173,.len (.t 172),some (171,false)⟩,⟨some 174,.mov (.t 12),some (171,false)⟩,
 ⟨some 175,.bin .neq (.t 173) (.t 174),some (171,false)⟩,⟨some 176,.pick (.t 171) (.k (.bool true)) (.t 175),none⟩,⟨some 177,.mov (.t 176),none⟩,
 ⟨some 178,.load 2 true (.t 16) [],some (177,false)⟩,⟨some 179,.load 2 true (.t 6) [],some (177,false)⟩,
 ⟨some 180,.bin (.sne 2) (.t 178) (.t 179),some (177,false)⟩,⟨some 181,.pick (.t 177) (.k (.bool true)) (.t 180),none⟩,⟨some 182,.mov (.t 181),none⟩,
 ⟨some 183,.mov (.t 18),some (182,false)⟩,⟨some 184,.len (.t 183),some (182,false)⟩,⟨some 185,.bin .gtr (.t 184) (.k (.int 0)),some (182,false)⟩,
 ⟨some 186,.pick (.t 182) (.k (.bool true)) (.t 185),none⟩] (some [2,6,12,14,186])) (.cond (.t 186) (.seq (.ops false [⟨some 4,.mov (.k (.bool false)),none⟩] (some [4])) .ret) .skip)) (.seq (.seq (.ops false [⟨some 20,.mov (.k (.int 0)),none⟩] (some [2,6,12,14,20])) (.block 2 (.loop (.seq (.seq (.ops false [⟨some 187,.mov (.t 20),none⟩,
 ⟨some 188,.mov (.t 12),none⟩,
 ⟨some 189,.bin .lss (.t 187) (.t 188),none⟩] (some [2,6,12,14,20,189])) (.cond (.t 189) .skip (.exit 2))) (.seq (.block 3 (.seq (.ops false [⟨some 192,.mov (.t 14),none⟩,
 ⟨some 193,.mov (.t 20),none⟩,⟨some 194,.idx 2 (.t 192) (.t 193),none⟩,⟨some 195,.load 2 true (.t 194) [],none⟩,⟨some 196,.mov (.t 20),none⟩,
 ⟨some 197,.mov (.t 20),none⟩,⟨some 198,.build [.int 0,.int 0] [(0,1,.t 196),(1,1,.t 197)],none⟩,
 ⟨some 199,.bin (.sne 2) (.t 195) (.t 198),none⟩] (some [2,6,12,14,20,199])) (.cond (.t 199) (.seq (.ops false [⟨some 4,.mov (.k (.bool false)),none⟩] (some [4])) .ret) .skip))) (.ops false [⟨some 190,.mov (.t 20),none⟩,
 ⟨some 191,.bin .add (.t 190) (.k (.int 1)),none⟩,
 ⟨some 20,.mov (.t 191),none⟩] (some [2,6,12,14,20]))))))) (.seq (.ops false [⟨some 201,.load 4 true (.t 2) [],none⟩,⟨some 202,.fld 2 (.t 2),none⟩,
 ⟨some 203,.load 1 false (.t 202) [],none⟩,⟨some 204,.len (.t 203),none⟩,⟨some 205,.call 14 [.t 201,.t 204],none⟩,⟨some 200,.mov (.t 205),none⟩,
 ⟨some 206,.ext (.t 200) 0,none⟩,⟨some 207,.ext (.t 200) 1,none⟩,⟨some 21,.alloc 21 [.int 0,.int 0],none⟩,⟨none,.store 2 (.t 21) (.t 206) (some 21),none⟩,
 ⟨some 22,.mov (.t 207),none⟩] (some [6,21,22])) (.seq (.seq (.ops false [⟨some 208,.mov (.t 22),none⟩,
 ⟨some 209,.bin .neq (.t 208) (.k (.int 0)),none⟩] (some [6,21,22,209])) (.cond (.t 209) (.seq (.ops false [⟨some 210,.mov (.t 22),none⟩,
 ⟨some 211,.bin .eql (.t 210) (.k (.int 3)),none⟩,⟨some 212,.mov (.t 211),none⟩,⟨some 213,.call 7 [],some (212,true)⟩,
 ⟨some 214,.pick (.t 212) (.t 213) (.k (.bool false)),none⟩,
 ⟨some 4,.mov (.t 214),none⟩] (some [4])) .ret) .skip)) (.seq (.ops false [⟨some 215,.fld 0 (.t 21),none⟩,⟨some 216,.load 1 false (.t 215) [],none⟩,
 ⟨some 217,.fld 0 (.t 6),none⟩,⟨some 218,.load 1 false (.t 217) [],none⟩,⟨some 219,.bin .geq (.t 216) (.t 218),none⟩,⟨some 220,.mov (.t 219),none⟩,
 ⟨some 221,.fld 1 (.t 21),some (220,true)⟩,⟨some 222,.load 1 false (.t 221) [],some (220,true)⟩,⟨some 223,.fld 1 (.t 6),some (220,true)⟩,
 ⟨some 224,.load 1 false (.t 223) [],some (220,true)⟩,⟨some 225,.bin .leq (.t 222) (.t 224),some (220,true)⟩,
 ⟨some 226,.pick (.t 220) (.t 225) (.k (.bool false)),none⟩,⟨some 227,.mov (.t 226),none⟩,⟨some 228,.fld 0 (.t 21),some (227,true)⟩,
 ⟨some 229,.load 1 false (.t 228) [],some (227,true)⟩,⟨some 230,.fld 1 (.t 21),some (227,true)⟩,⟨some 231,.load 1 false (.t 230) [],some (227,true)⟩,
 ⟨some 232,.bin .leq (.t 229) (.t 231),some (227,true)⟩,⟨some 233,.pick (.t 227) (.t 232) (.k (.bool false)),none⟩,⟨some 234,.mov (.t 233),none⟩,
 ⟨some 235,.call 7 [],some (234,true)⟩,⟨some 236,.pick (.t 234) (.t 235) (.k (.bool false)),none⟩,⟨some 4,.mov (.t 236),none⟩] (some [4])) .ret))))))))))))))
theorem m3f : fmatch Tryz.prog Tryz.f3 2 [.tmp 4] v3f = true := by kernel_rfl
end Go.Proofs.YtggnmemkhookdaaGreatDoor

set_option linter.unusedSimpArgs false
set_option linter.unusedVariables false
set_option linter.unnecessarySimpa false
namespace Go.Proofs.YtggnmemkhookdaaGreatDoor.Kn
open Go Go.V
theorem hmix : Tryz.prog.follows .mixedOrders = true := by kernel_rfl
abbrev IS (l : List Int) : AV := .sl 1 (l.map .int) .sh
theorem c23 (a b : List Int) (ha : a.length < 4294967296) : Ctr Tryz.prog 23 [IS a, IS b] (.bool (decide (a = b))) := by
 refine ctr_of_wp hmix Tryz.func23 m23 rfl ?_
 unfold v23 IS
 simp -failIfUnchanged (disch := first|omega|(simp<;>omega)|fail) only [go_sem,simprocAttr]
 refine wcond_dec (fun h => ?_) (fun h => ?_)
 ·simp -failIfUnchanged (disch := first|omega|(simp<;>omega)|fail) only [go_sem,simprocAttr]
  have : a ≠ b := fun e => by subst e; simp at h
  simp [this]
 ·simp -failIfUnchanged (disch := first|omega|(simp<;>omega)|fail) only [go_sem,simprocAttr]
  refine wp_loop' Nat (fun i => ⟨[(0, IS a), (1, IS b), (5, .int i)], [], [], none⟩) (fun i => i ≤ a.length ∧ a.take i = b.take i) (fun i => a.length - i) 0 (by simp) (by unfold IS; simp -failIfUnchanged (disch := first|omega|(simp<;>omega)|fail) only [go_sem,simprocAttr]; try rfl) ?_
  rintro i ⟨hi, hpre⟩
  unfold IS
  simp -failIfUnchanged (disch := first|omega|(simp<;>omega)|fail) only [go_sem,simprocAttr]
  have hl : a.length = b.length := by omega
  refine wcond_dec (fun h => ?_) (fun h => ?_)
  ·simp -failIfUnchanged (disch := first|omega|(simp<;>omega)|fail) only [go_sem,simprocAttr]
   have e1 : a[i]? = some a[i] := List.getElem?_eq_getElem (by omega)
   have e2 : b[i]? = some b[i] := List.getElem?_eq_getElem (by omega)
   rw [e1, e2]
   simp -failIfUnchanged (disch := first|omega|(simp<;>omega)|fail) only [go_sem,simprocAttr]
   refine wcond_dec (fun h => ?_) (fun h => ?_)
   ·simp -failIfUnchanged (disch := first|omega|(simp<;>omega)|fail) only [go_sem,simprocAttr]
    have : a ≠ b := fun e => by subst e; simp at h
    simp [this]
   ·simp -failIfUnchanged (disch := first|omega|(simp<;>omega)|fail) only [go_sem,simprocAttr]
    refine ⟨i + 1, ⟨by omega, ?_⟩, by dsimp only; omega, ?_⟩
    ·rw [List.take_add_one, List.take_add_one, hpre, e1, e2]
     simp only [Decidable.not_not] at h
     rw [h]
    ·simp -failIfUnchanged (disch := first|omega|(simp<;>omega)|fail) only [go_sem,simprocAttr]
     simp
  ·simp -failIfUnchanged (disch := first|omega|(simp<;>omega)|fail) only [go_sem,simprocAttr]
   have e : i = a.length := by omega
   have : a = b := by
    rw [e, List.take_length, hl, List.take_length] at hpre
    exact hpre
   simp [this]
end Go.Proofs.YtggnmemkhookdaaGreatDoor.Kn

set_option linter.unusedSimpArgs false
set_option linter.unusedVariables false
set_option linter.unnecessarySimpa false
namespace Go.Proofs.YtggnmemkhookdaaGreatDoor.Kn
open Go Go.V
structure Sp where
 lo : Int
 hi : Int
 deriving Inhabited, DecidableEq
structure Bk where
 base : Int
 places : Int
 cords : List (List Sp)
 top : List Sp
 deriving Inhabited, DecidableEq
abbrev SP (s : Sp) : AV := .agg [.int s.lo, .int s.hi]
abbrev SS (l : List Sp) : AV := .sl 2 (l.map SP) .sh
abbrev KB (b : Bk) : AV := .agg [.int b.base, .int b.places, .sl 1 (b.cords.map SS) .sh, SS b.top]
def within (n lo hi : Int) : Bool := decide (lo ≤ n ∧ n ≤ hi)
theorem c48 (n lo hi : Int) : Ctr Tryz.prog 48 [.int n, .int lo, .int hi] (.bool (within n lo hi)) := by
 refine ctr_of_wp hmix Tryz.func48 m48 rfl ?_
 unfold v48
 simp -failIfUnchanged (disch := first|omega|(simp<;>omega)|fail) only [go_sem,simprocAttr]
 refine WGd_bool (fun h => ?_) (fun h => ?_)
 ·simp -failIfUnchanged (disch := first|omega|(simp<;>omega)|fail) only [go_sem,simprocAttr, h]
  simp only [decide_eq_true_eq] at h
  simp [within, h]
 ·simp -failIfUnchanged (disch := first|omega|(simp<;>omega)|fail) only [go_sem,simprocAttr, h]
  simp only [Bool.not_true, decide_eq_false_iff_not] at h
  simp [within, h]
theorem c25 (b : Bk) (n : Int) : Ctr Tryz.prog 25 [KB b, .int n] (.bool (within n 0 b.cords.length)) := by
 refine ctr_of_wp hmix Tryz.func25 m25 rfl ?_
 unfold v25
 simp -failIfUnchanged (disch := first|omega|(simp<;>omega)|fail) only [go_sem,simprocAttr]
 refine wcall (c48 _ _ _) ?_
 simp -failIfUnchanged (disch := first|omega|(simp<;>omega)|fail) only [go_sem,simprocAttr]
theorem c95 (s : Sp) (d : Int) (h1 : 0 ≤ s.lo ∧ s.lo ≤ 1000) (h2 : 0 ≤ s.hi ∧ s.hi ≤ 1000) (h3 : 0 ≤ d ∧ d ≤ 1000) : Ctr Tryz.prog 95 [SP s, .int d] (.int (max (max 0 (s.lo - d)) (d - s.hi))) := by
 refine ctr_of_wp hmix Tryz.func95 m95 rfl ?_
 unfold v95
 simp -failIfUnchanged (disch := first|omega|(simp<;>omega)|fail) only [go_sem,simprocAttr]
end Go.Proofs.YtggnmemkhookdaaGreatDoor.Kn

set_option linter.unusedSimpArgs false
set_option linter.unusedVariables false
set_option linter.unnecessarySimpa false
namespace Go.Proofs.YtggnmemkhookdaaGreatDoor.Kn
open Go Go.V
def idxF {α : Type} (p : α → Bool) (l : List α) : Int := if l.any p then l.findIdx p else -1
theorem idxF_hit {α : Type} [Inhabited α] {p : α → Bool} {l : List α} {i : Nat} (hi : i < l.length) (hpre : ∀ x ∈ l.take i, p x = false) (h : p (l[i]?.getD default) = true) : idxF p l = i := by
 have e : l[i]?.getD default = l[i] := by simp [hi]
 rw [e] at h
 have hany : l.any p = true := List.any_eq_true.2 ⟨l[i], List.getElem_mem hi, h⟩
 have : l.findIdx p = i := by
  rw [List.findIdx_eq hi]
  refine ⟨h, fun j hj => ?_⟩
  refine hpre _ ?_
  have hj2 : j < l.length := by omega
  have : (l.take i)[j]'(by simp; omega) = l[j] := List.getElem_take
  rw [← this]
  exact List.getElem_mem _
 simp [idxF, hany, this]
theorem idxF_miss {α : Type} {p : α → Bool} {l : List α} (hpre : ∀ x ∈ l, p x = false) : idxF p l = -1 := by
 have : l.any p = false := List.any_eq_false.2 fun x hx => by simp [hpre x hx]
 simp [idxF, this]
theorem idxF_geq {α : Type} {p : α → Bool} {l : List α} : decide ((0 : Int) ≤ idxF p l) = l.any p := by
 unfold idxF
 cases l.any p <;> simp
theorem take_succ_all {α : Type} [Inhabited α] {p : α → Bool} {l : List α} {i : Nat} (hi : i < l.length) (hpre : ∀ x ∈ l.take i, p x = false) (h : p (l[i]?.getD default) = false) : ∀ x ∈ l.take (i + 1), p x = false := by
 intro x hx
 rw [List.take_add_one] at hx
 rcases List.mem_append.1 hx with hx | hx
 ·exact hpre x hx
 ·have e : l[i]? = some l[i] := List.getElem?_eq_getElem hi
  rw [e] at hx h
  simp at hx h
  rw [hx]; exact h
theorem mem_getD {α : Type} [Inhabited α] {l : List α} {i : Nat} (hi : i < l.length) : l[i]?.getD default ∈ l := by
 simp [hi]
theorem c106 (l : List Sp) (g : Nat) (caps : List AV) (p : Sp → Bool) (hp : ∀ x ∈ l, Ctr Tryz.prog g ([SP x] ++ caps) (.bool (p x))) (hl : l.length < 4294967296) :
  Ctr Tryz.prog 106 [SS l, .clo g [] caps] (.int (idxF p l)) := by
 refine ctr_of_wp hmix Tryz.func106 m106 rfl ?_
 unfold v106
 simp -failIfUnchanged (disch := first|omega|(simp<;>omega)|fail) only [go_sem,simprocAttr]
 refine wp_loop' Nat (fun i => ⟨[(0, SS l), (1, .clo g [] caps), (7, .int l.length), (8, .int i)], [], [], none⟩) (fun i => i ≤ l.length ∧ ∀ x ∈ l.take i, p x = false) (fun i => l.length - i) 0 (by simp) (by simp -failIfUnchanged (disch := first|omega|(simp<;>omega)|fail) only [go_sem,simprocAttr]; try rfl) ?_
 rintro i ⟨hi, hpre⟩
 simp -failIfUnchanged (disch := first|omega|(simp<;>omega)|fail) only [go_sem,simprocAttr]
 refine wcond_dec (fun h => ?_) (fun h => ?_)
 ·simp -failIfUnchanged (disch := first|omega|(simp<;>omega)|fail) only [go_sem,simprocAttr]
  have hlt : i < l.length := by omega
  refine wcall (hp _ (mem_getD hlt)) ?_
  simp -failIfUnchanged (disch := first|omega|(simp<;>omega)|fail) only [go_sem,simprocAttr]
  refine wcond_bool (fun hb => ?_) (fun hb => ?_)
  ·simp -failIfUnchanged (disch := first|omega|(simp<;>omega)|fail) only [go_sem,simprocAttr]
   rw [idxF_hit hlt hpre hb]
  ·simp -failIfUnchanged (disch := first|omega|(simp<;>omega)|fail) only [go_sem,simprocAttr]
   refine ⟨i + 1, ⟨by omega, take_succ_all hlt hpre hb⟩, by dsimp only; omega, ?_⟩
   simp -failIfUnchanged (disch := first|omega|(simp<;>omega)|fail) only [go_sem,simprocAttr]
   try simp
 ·simp -failIfUnchanged (disch := first|omega|(simp<;>omega)|fail) only [go_sem,simprocAttr]
  have e : i = l.length := by omega
  rw [idxF_miss]
  rw [e, List.take_length] at hpre
  exact hpre
theorem c91 (l : List Sp) (g : Nat) (caps : List AV) (p : Sp → Bool) (hp : ∀ x ∈ l, Ctr Tryz.prog g ([SP x] ++ caps) (.bool (p x))) (hl : l.length < 4294967296) :
  Ctr Tryz.prog 91 [SS l, .clo g [] caps] (.bool (l.any p)) := by
 refine ctr_of_wp hmix Tryz.func91 m91 rfl ?_
 unfold v91
 simp -failIfUnchanged (disch := first|omega|(simp<;>omega)|fail) only [go_sem,simprocAttr]
 refine wcall (c106 l g caps p hp hl) ?_
 simp -failIfUnchanged (disch := first|omega|(simp<;>omega)|fail) only [go_sem,simprocAttr]
 rw [idxF_geq]
theorem c92 (l : List (List Sp)) (g : Nat) (caps : List AV) (p : List Sp → Bool) (hp : ∀ x ∈ l, Ctr Tryz.prog g ([SS x] ++ caps) (.bool (p x))) (hl : l.length < 4294967296) :
  Ctr Tryz.prog 92 [.sl 1 (l.map SS) .sh, .clo g [] caps] (.int (idxF p l)) := by
 refine ctr_of_wp hmix Tryz.func92 m92 rfl ?_
 unfold v92
 simp -failIfUnchanged (disch := first|omega|(simp<;>omega)|fail) only [go_sem,simprocAttr]
 refine wp_loop' Nat (fun i => ⟨[(0, .sl 1 (l.map SS) .sh), (1, .clo g [] caps), (7, .int l.length), (8, .int i)], [], [], none⟩) (fun i => i ≤ l.length ∧ ∀ x ∈ l.take i, p x = false) (fun i => l.length - i) 0 (by simp) (by simp -failIfUnchanged (disch := first|omega|(simp<;>omega)|fail) only [go_sem,simprocAttr]; try rfl) ?_
 rintro i ⟨hi, hpre⟩
 simp -failIfUnchanged (disch := first|omega|(simp<;>omega)|fail) only [go_sem,simprocAttr]
 refine wcond_dec (fun h => ?_) (fun h => ?_)
 ·simp -failIfUnchanged (disch := first|omega|(simp<;>omega)|fail) only [go_sem,simprocAttr]
  have hlt : i < l.length := by omega
  refine wcall (hp _ (mem_getD hlt)) ?_
  simp -failIfUnchanged (disch := first|omega|(simp<;>omega)|fail) only [go_sem,simprocAttr]
  refine wcond_bool (fun hb => ?_) (fun hb => ?_)
  ·simp -failIfUnchanged (disch := first|omega|(simp<;>omega)|fail) only [go_sem,simprocAttr]
   rw [idxF_hit hlt hpre hb]
  ·simp -failIfUnchanged (disch := first|omega|(simp<;>omega)|fail) only [go_sem,simprocAttr]
   refine ⟨i + 1, ⟨by omega, take_succ_all hlt hpre hb⟩, by dsimp only; omega, ?_⟩
   simp -failIfUnchanged (disch := first|omega|(simp<;>omega)|fail) only [go_sem,simprocAttr]
   try simp
 ·simp -failIfUnchanged (disch := first|omega|(simp<;>omega)|fail) only [go_sem,simprocAttr]
  have e : i = l.length := by omega
  rw [idxF_miss]
  rw [e, List.take_length] at hpre
  exact hpre
theorem c76 (l : List (List Sp)) (g : Nat) (caps : List AV) (p : List Sp → Bool) (hp : ∀ x ∈ l, Ctr Tryz.prog g ([SS x] ++ caps) (.bool (p x))) (hl : l.length < 4294967296) :
  Ctr Tryz.prog 76 [.sl 1 (l.map SS) .sh, .clo g [] caps] (.bool (l.any p)) := by
 refine ctr_of_wp hmix Tryz.func76 m76 rfl ?_
 unfold v76
 simp -failIfUnchanged (disch := first|omega|(simp<;>omega)|fail) only [go_sem,simprocAttr]
 refine wcall (c92 l g caps p hp hl) ?_
 simp -failIfUnchanged (disch := first|omega|(simp<;>omega)|fail) only [go_sem,simprocAttr]
 rw [idxF_geq]
theorem c111 (l : List Int) (g : Nat) (caps : List AV) (p : Int → Bool) (hp : ∀ x ∈ l, Ctr Tryz.prog g ([.int x] ++ caps) (.bool (p x))) (hl : l.length < 4294967296) :
  Ctr Tryz.prog 111 [.sl 1 (l.map .int) .sh, .clo g [] caps] (.int (idxF p l)) := by
 refine ctr_of_wp hmix Tryz.func111 m111 rfl ?_
 unfold v111
 simp -failIfUnchanged (disch := first|omega|(simp<;>omega)|fail) only [go_sem,simprocAttr]
 refine wp_loop' Nat (fun i => ⟨[(0, .sl 1 (l.map .int) .sh), (1, .clo g [] caps), (7, .int l.length), (8, .int i)], [], [], none⟩) (fun i => i ≤ l.length ∧ ∀ x ∈ l.take i, p x = false) (fun i => l.length - i) 0 (by simp) (by simp -failIfUnchanged (disch := first|omega|(simp<;>omega)|fail) only [go_sem,simprocAttr]; try rfl) ?_
 rintro i ⟨hi, hpre⟩
 simp -failIfUnchanged (disch := first|omega|(simp<;>omega)|fail) only [go_sem,simprocAttr]
 refine wcond_dec (fun h => ?_) (fun h => ?_)
 ·simp -failIfUnchanged (disch := first|omega|(simp<;>omega)|fail) only [go_sem,simprocAttr]
  have hlt : i < l.length := by omega
  refine wcall (hp _ (mem_getD hlt)) ?_
  simp -failIfUnchanged (disch := first|omega|(simp<;>omega)|fail) only [go_sem,simprocAttr]
  refine wcond_bool (fun hb => ?_) (fun hb => ?_)
  ·simp -failIfUnchanged (disch := first|omega|(simp<;>omega)|fail) only [go_sem,simprocAttr]
   rw [idxF_hit hlt hpre hb]
  ·simp -failIfUnchanged (disch := first|omega|(simp<;>omega)|fail) only [go_sem,simprocAttr]
   refine ⟨i + 1, ⟨by omega, take_succ_all hlt hpre hb⟩, by dsimp only; omega, ?_⟩
   simp -failIfUnchanged (disch := first|omega|(simp<;>omega)|fail) only [go_sem,simprocAttr]
   try simp
 ·simp -failIfUnchanged (disch := first|omega|(simp<;>omega)|fail) only [go_sem,simprocAttr]
  have e : i = l.length := by omega
  rw [idxF_miss]
  rw [e, List.take_length] at hpre
  exact hpre
theorem c107 (l : List Int) (g : Nat) (caps : List AV) (p : Int → Bool) (hp : ∀ x ∈ l, Ctr Tryz.prog g ([.int x] ++ caps) (.bool (p x))) (hl : l.length < 4294967296) :
  Ctr Tryz.prog 107 [.sl 1 (l.map .int) .sh, .clo g [] caps] (.bool (l.any p)) := by
 refine ctr_of_wp hmix Tryz.func107 m107 rfl ?_
 unfold v107
 simp -failIfUnchanged (disch := first|omega|(simp<;>omega)|fail) only [go_sem,simprocAttr]
 refine wcall (c111 l g caps p hp hl) ?_
 simp -failIfUnchanged (disch := first|omega|(simp<;>omega)|fail) only [go_sem,simprocAttr]
 rw [idxF_geq]
def badS (b : Bk) (s : Sp) : Bool := !within s.lo 0 s.hi || decide (b.base ≤ s.hi)
def isCordB (b : Bk) (l : List Sp) : Bool := decide ((l.length : Int) = b.places) && !l.any (badS b)
def checkB (b : Bk) : Bool := within b.base 2 10 && (within b.places 1 4 && (decide ((b.cords.length : Int) ≤ 4) && (!b.cords.any (fun l => !isCordB b l) && isCordB b b.top)))
structure Small (b : Bk) : Prop where
 cords : b.cords.length < 4294967296
 top : b.top.length < 4294967296
 each : ∀ l ∈ b.cords, l.length < 4294967296
theorem c90 (b : Bk) (s : Sp) : Ctr Tryz.prog 90 [SP s, .ref 4 [KB b] 0 0] (.bool (badS b s)) := by
 refine ctr_of_wp hmix Tryz.func90 m90 rfl ?_
 unfold v90
 simp -failIfUnchanged (disch := first|omega|(simp<;>omega)|fail) only [go_sem,simprocAttr]
 refine wcall (c48 _ _ _) ?_
 simp -failIfUnchanged (disch := first|omega|(simp<;>omega)|fail) only [go_sem,simprocAttr]
 refine WGd_bool (fun h => ?_) (fun h => ?_)
 ·simp -failIfUnchanged (disch := first|omega|(simp<;>omega)|fail) only [go_sem,simprocAttr, h]
  simp [badS, h]
 ·simp -failIfUnchanged (disch := first|omega|(simp<;>omega)|fail) only [go_sem,simprocAttr, h]
  simp only [Bool.not_false] at h
  simp [badS, h]
theorem c75 (b : Bk) (l : List Sp) (hl : l.length < 4294967296) : Ctr Tryz.prog 75 [KB b, SS l] (.bool (isCordB b l)) := by
 refine ctr_of_wp hmix Tryz.func75 m75 rfl ?_
 unfold v75
 simp -failIfUnchanged (disch := first|omega|(simp<;>omega)|fail) only [go_sem,simprocAttr]
 refine WGd_bool (fun h => ?_) (fun h => ?_)
 ·simp -failIfUnchanged (disch := first|omega|(simp<;>omega)|fail) only [go_sem,simprocAttr, h]
  refine wcall (c91 l 90 _ (badS b) (fun x _ => c90 b x) hl) ?_
  simp -failIfUnchanged (disch := first|omega|(simp<;>omega)|fail) only [go_sem,simprocAttr, h]
  simp [isCordB, h]
 ·simp -failIfUnchanged (disch := first|omega|(simp<;>omega)|fail) only [go_sem,simprocAttr, h]
  simp only [Bool.not_true] at h
  simp [isCordB, h]
theorem c74 (b : Bk) (l : List Sp) (hl : l.length < 4294967296) : Ctr Tryz.prog 74 [SS l, .ref 4 [KB b] 0 0] (.bool (!isCordB b l)) := by
 refine ctr_of_wp hmix Tryz.func74 m74 rfl ?_
 unfold v74
 simp -failIfUnchanged (disch := first|omega|(simp<;>omega)|fail) only [go_sem,simprocAttr]
 refine wcall (c75 b l hl) ?_
 simp -failIfUnchanged (disch := first|omega|(simp<;>omega)|fail) only [go_sem,simprocAttr]
theorem c50 (b : Bk) (hs : Small b) : Ctr Tryz.prog 50 [KB b] (.int (if checkB b then 0 else 110)) := by
 refine ctr_of_wp hmix Tryz.func50 m50 rfl ?_
 unfold v50
 simp -failIfUnchanged (disch := first|omega|(simp<;>omega)|fail) only [go_sem,simprocAttr]
 refine wcall (c48 _ _ _) ?_
 simp -failIfUnchanged (disch := first|omega|(simp<;>omega)|fail) only [go_sem,simprocAttr]
 refine WGd_bool (fun h1 => ?_) (fun h1 => ?_)
 ·simp -failIfUnchanged (disch := first|omega|(simp<;>omega)|fail) only [go_sem,simprocAttr, h1]
  refine wcall (c48 _ _ _) ?_
  simp -failIfUnchanged (disch := first|omega|(simp<;>omega)|fail) only [go_sem,simprocAttr]
  refine WGd_bool (fun h2 => ?_) (fun h2 => ?_)
  ·simp -failIfUnchanged (disch := first|omega|(simp<;>omega)|fail) only [go_sem,simprocAttr, h2]
   refine WGd_bool (fun h3 => ?_) (fun h3 => ?_)
   ·simp -failIfUnchanged (disch := first|omega|(simp<;>omega)|fail) only [go_sem,simprocAttr, h3]
    refine wcall (c76 b.cords 74 _ (fun l => !isCordB b l) (fun x hx => c74 b x (hs.each x hx)) hs.cords) ?_
    simp -failIfUnchanged (disch := first|omega|(simp<;>omega)|fail) only [go_sem,simprocAttr]
    refine WGd_bool (fun h4 => ?_) (fun h4 => ?_)
    ·simp -failIfUnchanged (disch := first|omega|(simp<;>omega)|fail) only [go_sem,simprocAttr, h4]
     refine wcall (c74 b b.top hs.top) ?_
     simp -failIfUnchanged (disch := first|omega|(simp<;>omega)|fail) only [go_sem,simprocAttr]
     refine wcond_bool (fun h5 => ?_) (fun h5 => ?_)
     ·simp -failIfUnchanged (disch := first|omega|(simp<;>omega)|fail) only [go_sem,simprocAttr]
      simp_all [checkB]
     ·simp -failIfUnchanged (disch := first|omega|(simp<;>omega)|fail) only [go_sem,simprocAttr]
      simp_all [checkB]
    ·simp -failIfUnchanged (disch := first|omega|(simp<;>omega)|fail) only [go_sem,simprocAttr, h4]
     simp_all [checkB]
     intro ha
     obtain ⟨x, hx, hx2⟩ := h4
     simp [ha x hx] at hx2
   ·simp -failIfUnchanged (disch := first|omega|(simp<;>omega)|fail) only [go_sem,simprocAttr, h3]
    simp_all [checkB]
    intro hc
    omega
  ·simp -failIfUnchanged (disch := first|omega|(simp<;>omega)|fail) only [go_sem,simprocAttr, h2]
   simp_all [checkB]
 ·simp -failIfUnchanged (disch := first|omega|(simp<;>omega)|fail) only [go_sem,simprocAttr, h1]
  simp_all [checkB]
end Go.Proofs.YtggnmemkhookdaaGreatDoor.Kn

set_option linter.unusedSimpArgs false
set_option linter.unusedVariables false
set_option linter.unnecessarySimpa false
namespace Go.Proofs.YtggnmemkhookdaaGreatDoor.Kn
open Go Go.V
structure Wy where
 k : Int
 r : Int
 deriving Inhabited, DecidableEq
def wcs : List Wy → List AV
 | [] => []
 | w :: l => .int w.k :: .int w.r :: wcs l
abbrev WS (ws : List Wy) : AV := .agg (wcs ws)
theorem wcs_len (ws : List Wy) : (wcs ws).length = 2 * ws.length := by
 induction ws with
 | nil => rfl
 | cons w l ih => simp only [wcs, List.length_cons, ih]; omega
theorem zeros_wcs (n : Nat) : zeros [.int 0, .int 0] n = wcs (List.replicate n ⟨0, 0⟩) := by
 induction n with
 | zero => rfl
 | succ n ih => simp only [zeros, List.replicate_succ, wcs, ih]; rfl
theorem wcs_get0 {ws : List Wy} {i : Nat} (h : i < ws.length) : (wcs ws)[i * 2]?.getD .und = .int (ws[i]?.getD default).k := by
 induction ws generalizing i with
 | nil => simp at h
 | cons w l ih =>
  cases i with
  | zero => rfl
  | succ i =>
   rw [show (i + 1) * 2 = i * 2 + 2 by omega]
   simp only [wcs, List.getElem?_cons_succ]
   exact ih (by simpa using h)
theorem wcs_get1 {ws : List Wy} {i : Nat} (h : i < ws.length) : (wcs ws)[i * 2 + 1]?.getD .und = .int (ws[i]?.getD default).r := by
 induction ws generalizing i with
 | nil => simp at h
 | cons w l ih =>
  cases i with
  | zero => rfl
  | succ i =>
   rw [show (i + 1) * 2 + 1 = i * 2 + 1 + 2 by omega]
   simp only [wcs, List.getElem?_cons_succ]
   exact ih (by simpa using h)
theorem wcs_take2 {ws : List Wy} {i : Nat} (h : i < ws.length) : ((wcs ws).drop (i * 2)).take 2 = [.int (ws[i]?.getD default).k, .int (ws[i]?.getD default).r] := by
 induction ws generalizing i with
 | nil => simp at h
 | cons w l ih =>
  cases i with
  | zero => rfl
  | succ i =>
   rw [show (i + 1) * 2 = i * 2 + 2 by omega]
   simp only [wcs, List.drop_succ_cons, List.getElem?_cons_succ]
   exact ih (by simpa using h)
theorem wcs_take2z {ws : List Wy} (h : 0 < ws.length) : (wcs ws).take 2 = [.int (ws[0]?.getD default).k, .int (ws[0]?.getD default).r] := wcs_take2 (i := 0) h
theorem wcs_all {ws : List Wy} {n : Nat} (h : 2 * ws.length ≤ n) : (wcs ws).take n = wcs ws := List.take_of_length_le (by rw [wcs_len]; exact h)
theorem wcs_map {ws : List Wy} {hp : List (Nat × BX)} : (wcs ws).map (strip hp) = wcs ws := by
 induction ws with
 | nil => rfl
 | cons w l ih => simp only [wcs, List.map_cons, ih, strip_int]
theorem wcs_bids {ws : List Wy} : bids (wcs ws) = [] := by
 induction ws with
 | nil => rfl
 | cons w l ih => simp only [wcs, bids, AV.bid, AV.bid1, ih, List.append_nil]
theorem setAt_wcs0 {ws : List Wy} {i : Nat} {x : Int} (h : i < ws.length) : setAt (wcs ws) (i * 2) [.int x] = wcs (ws.set i ⟨x, (ws[i]?.getD default).r⟩) := by
 induction ws generalizing i with
 | nil => simp at h
 | cons w l ih =>
  cases i with
  | zero => rfl
  | succ i =>
   rw [show (i + 1) * 2 = i * 2 + 1 + 1 by omega]
   simp only [wcs, setAt, List.set_cons_succ, List.getElem?_cons_succ]
   rw [ih (by simpa using h)]
theorem setAt_wcs1 {ws : List Wy} {i : Nat} {x : Int} (h : i < ws.length) : setAt (wcs ws) (i * 2 + 1) [.int x] = wcs (ws.set i ⟨(ws[i]?.getD default).k, x⟩) := by
 induction ws generalizing i with
 | nil => simp at h
 | cons w l ih =>
  cases i with
  | zero => rfl
  | succ i =>
   rw [show (i + 1) * 2 + 1 = (i * 2 + 1) + 1 + 1 by omega]
   simp only [wcs, setAt, List.set_cons_succ, List.getElem?_cons_succ]
   rw [ih (by simpa using h)]
theorem setAt_wcs2 {ws : List Wy} {i : Nat} {x y : Int} (h : i < ws.length) : setAt (wcs ws) (i * 2) [.int x, .int y] = wcs (ws.set i ⟨x, y⟩) := by
 induction ws generalizing i with
 | nil => simp at h
 | cons w l ih =>
  cases i with
  | zero => rfl
  | succ i =>
   rw [show (i + 1) * 2 = i * 2 + 1 + 1 by omega]
   simp only [wcs, setAt, List.set_cons_succ]
   rw [ih (by simpa using h)]
theorem setAt_wcs2z {ws : List Wy} {x y : Int} (h : 0 < ws.length) : setAt (wcs ws) 0 [.int x, .int y] = wcs (ws.set 0 ⟨x, y⟩) := setAt_wcs2 (i := 0) h
theorem setAt_wcsA {ws us : List Wy} (h : ws.length ≤ us.length) : setAt (wcs ws) 0 (wcs us) = wcs us := by
 rw [setAt_0, List.drop_eq_nil_of_le (by rw [wcs_len, wcs_len]; omega), List.append_nil]
theorem ag148 : aggOf Tryz.prog 148 = some true := by kernel_rfl
theorem sz148 : szOf Tryz.prog 148 = some 102 := by kernel_rfl
theorem out1_eq {P : Program} {fr : List (Nat × AV)} {hp : List (Nat × BX)} {tk : List (Nat × Nat)} {pd : Option Ex} {t : Nat} {ty : TypeId} : out1 P ⟨fr, hp, tk, pd⟩ (.cell t ty) = (match get fr t with
  | .ptr b 0 => match getB hp b with
   | some ⟨cells, true⟩ => match aggOf P ty with
    | some true => if szOf P ty = some cells.length then .agg cells else .und
    | some false => match cells with
     | [x] => x
     | _ => .und
    | none => .und
   | _ => .und
  | _ => .und) := rfl
theorem if_len {ws : List Wy} {x y : AV} (h : ws.length = 51) : (if some 102 = some (2 * ws.length) then x else y) = x := by rw [h]; rfl
theorem scopes_wcs {τ : AS} {ws : List Wy} : scopes τ (wcs ws) = True := by
 induction ws with
 | nil => rfl
 | cons w l ih => simp only [wcs, scopes, inScope, ih, and_self]
theorem wcs_len51 {ws : List Wy} (h : ws.length = 51) : (2 * ws.length = 102) = True := by simp [h]
theorem drop_wcs {ws : List Wy} {k : Nat} (h : 2 * ws.length ≤ k) : (wcs ws).drop k = [] := List.drop_eq_nil_of_le (by rw [wcs_len]; exact h)
theorem if_len' {ws : List Wy} {x y : AV} (h : ws.length = 51) : (if 102 = 2 * ws.length then x else y) = x := by rw [h]; rfl
attribute [go_sem] wcs_take2z setAt_wcs2z drop_wcs if_len' wcs_len51 scopes_wcs wcs_len zeros_wcs wcs_get0 wcs_get1 wcs_take2 wcs_all wcs_map wcs_bids setAt_wcs0 setAt_wcs1 setAt_wcs2 setAt_wcsA ag148 sz148 out1_eq if_len List.length_replicate List.length_set
attribute [go_sem ↓] setAt_wcs0 setAt_wcs1 setAt_wcs2 setAt_wcsA
def emptyL (sum : Nat) : List Wy := (List.replicate 51 ⟨1048576, 0⟩).set sum ⟨0, 1⟩
theorem c93 (n : Nat) (hn : n < 51) : Ctr Tryz.prog 93 [.int n] (WS (emptyL n)) := by
 refine ctr_of_wp hmix Tryz.func93 m93 rfl ?_
 unfold v93
 simp -failIfUnchanged (disch := first|omega|(simp [wcs_len]<;>omega)|fail) only [go_sem,simprocAttr]
 refine wp_loop' (Nat × List Wy) (fun x => ⟨[(0, .int n), (2, .ptr 2 0), (4, .int x.1)], [(2, ⟨wcs x.2, false⟩)], [], none⟩) (fun x => x.1 ≤ 51 ∧ x.2 = List.replicate x.1 ⟨1048576, 0⟩ ++ List.replicate (51 - x.1) ⟨0, 0⟩) (fun x => 51 - x.1) (0, List.replicate 51 ⟨0, 0⟩) (by simp) (by simp -failIfUnchanged (disch := first|omega|(simp [wcs_len]<;>omega)|fail) only [go_sem,simprocAttr]; try simp) ?_
 rintro ⟨i, ws⟩ ⟨hi, hws⟩
 dsimp only at hi hws ⊢
 have hlen : ws.length = 51 := by rw [hws]; simp; omega
 simp -failIfUnchanged (disch := first|omega|(simp [wcs_len]<;>omega)|fail) only [go_sem,simprocAttr]
 refine wcond_dec (fun h => ?_) (fun h => ?_)
 ·simp -failIfUnchanged (disch := first|omega|(simp [wcs_len]<;>omega)|fail) only [go_sem,simprocAttr]
  refine ⟨(i + 1, ws.set i ⟨1048576, 0⟩), ⟨by omega, ?_⟩, by dsimp only; omega, ?_⟩
  ·rw [hws]
   apply List.ext_getElem?
   intro j
   simp only [List.getElem?_set, List.getElem?_append, List.getElem?_replicate, List.length_replicate, List.length_append]
   repeat' split
   all_goals (first | rfl | omega)
  ·have : (ws[i]?.getD default).r = 0 := by
    rw [hws, List.getElem?_append_right (by simp)]
    have h0 : 0 < 51 - i := by omega
    simp [List.getElem?_replicate, h0]
   rw [this]
   simp -failIfUnchanged (disch := first|omega|(simp [wcs_len]<;>omega)|fail) only [go_sem,simprocAttr]
   try simp
 ·simp -failIfUnchanged (disch := first|omega|(simp [wcs_len]<;>omega)|fail) only [go_sem,simprocAttr]
  have hi2 : i = 51 := by omega
  subst hi2
  simp only [Nat.sub_self, List.replicate_zero, List.append_nil] at hws
  rw [hws]
  rfl
end Go.Proofs.YtggnmemkhookdaaGreatDoor.Kn

set_option linter.unusedSimpArgs false
set_option linter.unusedVariables false
set_option linter.unnecessarySimpa false
namespace Go.Proofs.YtggnmemkhookdaaGreatDoor.Kn
open Go Go.V
abbrev LM (b : Bk) (may carry : AV) : AV := .agg [.int b.base, .int b.places, .sl 1 (b.cords.map SS) .sh, SS b.top, may, carry]
def costL (s : Sp) (d : Int) : Int := max (max 0 (s.lo - d)) (d - s.hi)
def addN (d : Nat) (cost : Int) (s : List Wy) (out : List Wy) (n : Nat) : List Wy :=
 out.set (n + d) ⟨min (out[n + d]?.getD default).k ((s[n]?.getD default).k + cost), if cost = 0 then w64 ((out[n + d]?.getD default).r + (s[n]?.getD default).r) else (out[n + d]?.getD default).r⟩
def addD (d : Nat) (cost : Int) (s : List Wy) (out : List Wy) : List Wy := (List.range (51 - d)).foldl (addN d cost s) out
def moreL (base : Nat) (may : Nat → Bool) (cost : Nat → Int) (s : List Wy) : List Wy :=
 (List.range base).foldl (fun out d => if may d then addD d (cost d) s out else out) ((emptyL 0).set 0 ⟨1048576, 0⟩)
structure Okw (s : List Wy) : Prop where
 len : s.length = 51
 k0 : ∀ i, i < 51 → 0 ≤ (s[i]?.getD default).k
 k1 : ∀ i, i < 51 → (s[i]?.getD default).k ≤ 1048576
theorem okw_empty {n : Nat} : Okw (emptyL n) := by
 have hl : (emptyL n).length = 51 := by simp [emptyL]
 refine ⟨hl, fun i hi => ?_, fun i hi => ?_⟩ <;>
 ·simp only [emptyL, List.getElem?_set, List.getElem?_replicate, List.length_replicate]
  repeat' split
  all_goals (first | (simp; done) | omega)
theorem okw_set {s : List Wy} (h : Okw s) {i : Nat} {w : Wy} (h0 : 0 ≤ w.k) (h1 : w.k ≤ 1048576) : Okw (s.set i w) := by
 refine ⟨by simp [h.len], fun j hj => ?_, fun j hj => ?_⟩
 ·rw [List.getElem?_set]
  have := h.k0 j hj
  repeat' split
  all_goals (first | (simpa using h0) | (simpa using this) | (have := h.len; omega))
 ·rw [List.getElem?_set]
  have := h.k1 j hj
  repeat' split
  all_goals (first | (simpa using h1) | (simpa using this) | (have := h.len; omega))
theorem okw_addN {d : Nat} {cost : Int} {s out : List Wy} {n : Nat} (hs : Okw s) (ho : Okw out) (hc : 0 ≤ cost) (hn : n + d < 51) : Okw (addN d cost s out n) := by
 unfold addN
 have a := hs.k0 n (by omega)
 have b := ho.k0 (n + d) hn
 have c := ho.k1 (n + d) hn
 exact okw_set ho (by dsimp only; omega) (by dsimp only; omega)
theorem okw_addD {d : Nat} {cost : Int} {s out : List Wy} (hs : Okw s) (ho : Okw out) (hc : 0 ≤ cost) : ∀ m, m + d ≤ 51 → Okw ((List.range m).foldl (addN d cost s) out)
 | 0, _ => ho
 | m + 1, h => by
  rw [List.range_succ, List.foldl_append]
  exact okw_addN hs (okw_addD hs ho hc m (by omega)) hc (by omega)
theorem c94 (b : Bk) (g g2 : Nat) (caps caps2 : List AV) (may : Nat → Bool) (s : List Wy) (c p : Nat) (l : List Sp) (sp : Sp)
  (hb0 : 0 ≤ b.base) (hb1 : b.base ≤ 10) (hc : b.cords[c]? = some l) (hp : l[p]? = some sp) (h1 : 0 ≤ sp.lo ∧ sp.lo ≤ 1000) (h2 : 0 ≤ sp.hi ∧ sp.hi ≤ 1000)
  (hmay : ∀ d : Nat, d < b.base.toNat → Ctr Tryz.prog g ([.int c, .int p, .int d] ++ caps) (.bool (may d))) (hs : Okw s) :
  Ctr Tryz.prog 94 [LM b (.clo g [] caps) (.clo g2 [] caps2), WS s, .int c, .int p] (WS (moreL b.base.toNat may (fun d => costL sp d) s)) := by
 refine ctr_of_wp hmix Tryz.func94 m94 rfl ?_
 unfold v94
 have hsl := hs.len
 obtain ⟨B, hB⟩ : ∃ B : Nat, b.base = B := ⟨b.base.toNat, by omega⟩
 have hcl2 : c < b.cords.length := (List.getElem?_eq_some_iff.1 hc).1
 have hpl : p < l.length := (List.getElem?_eq_some_iff.1 hp).1
 rw [hB] at hb0 hb1 hmay ⊢
 simp only [Int.toNat_natCast] at hmay ⊢
 simp -failIfUnchanged (disch := first|omega|(simp [wcs_len]<;>omega)|fail) only [go_sem,simprocAttr]
 refine wcall (c93 0 (by omega)) ?_
 have he : (emptyL 0).length = 51 := okw_empty.len
 simp -failIfUnchanged (disch := first|omega|(simp [wcs_len]<;>omega)|fail) only [go_sem,simprocAttr]
 have hz : Okw ((emptyL 0).set 0 ⟨1048576, 0⟩) := okw_set okw_empty (by simp) (by simp)
 refine wp_loop' (Nat × List Wy) (fun x => ⟨[(2, .int c), (3, .int p), (4, .ptr 4 0), (5, .ptr 5 0), (8, .ptr 8 0), (9, .ptr 9 0), (20, .int B), (21, .int x.1)],
  [(9, ⟨wcs x.2, false⟩), (8, ⟨wcs (List.replicate 51 ⟨0, 0⟩), false⟩), (5, ⟨wcs s, false⟩), (4, ⟨[.int B, .int b.places, .sl 1 (b.cords.map SS) .sh, SS b.top, .clo g [] caps, .clo g2 [] caps2], false⟩)], [], none⟩)
  (fun x => x.1 ≤ B ∧ x.2 = (List.range x.1).foldl (fun out d => if may d then addD d (costL sp d) s out else out) ((emptyL 0).set 0 ⟨1048576, 0⟩) ∧ Okw x.2) (fun x => B - x.1) (0, (emptyL 0).set 0 ⟨1048576, 0⟩) ⟨by simp, rfl, hz⟩ ?_ ?_
 ·simp -failIfUnchanged (disch := first|omega|(simp [wcs_len]<;>omega)|fail) only [go_sem,simprocAttr]
  first | exact ⟨⟨hB, rfl⟩, by rw [hB]⟩ | exact hB | simp [hB]
 ·rintro ⟨d, out⟩ ⟨hd, hout, hok⟩
  dsimp only at hd hout hok ⊢
  have hol := hok.len
  simp -failIfUnchanged (disch := first|omega|(simp [wcs_len]<;>omega)|fail) only [go_sem,simprocAttr]
  refine wcond_dec (fun h => ?_) (fun h => ?_)
  ·simp -failIfUnchanged (disch := first|omega|(simp [wcs_len]<;>omega)|fail) only [go_sem,simprocAttr]
   refine wcall (hmay d (by omega)) ?_
   simp -failIfUnchanged (disch := first|omega|(simp [wcs_len]<;>omega)|fail) only [go_sem,simprocAttr]
   refine wcond_bool (fun hm => ?_) (fun hm => ?_)
   ·simp -failIfUnchanged (disch := first|omega|(simp [wcs_len]<;>omega)|fail) only [go_sem,simprocAttr]
    refine ⟨(d + 1, out), ⟨by omega, ?_, hok⟩, by dsimp only; omega, ?_⟩
    ·have hm2 : may d = false := by simpa using hm
     dsimp only
     rw [List.range_succ, List.foldl_append, hout]
     simp [hm2]
    ·simp -failIfUnchanged (disch := first|omega|(simp [wcs_len]<;>omega)|fail) only [go_sem,simprocAttr]
     simp
   ·have hm2 : may d = true := by simpa using hm
    have e1 : (b.cords[c]?.getD default) = l := by rw [hc]; rfl
    have e2 : (l[p]?.getD default) = sp := by rw [hp]; rfl
    simp -failIfUnchanged (disch := first|omega|(simp [wcs_len]<;>omega)|fail) only [go_sem,simprocAttr, e1, e2]
    refine wcall (c95 sp d h1 h2 (by omega)) ?_
    simp -failIfUnchanged (disch := first|omega|(simp [wcs_len]<;>omega)|fail) only [go_sem,simprocAttr]
    have hcost : 0 ≤ costL sp d := by unfold costL; omega
    have hcost2 : costL sp d ≤ 2000 := by unfold costL; omega
    rw [show max (max 0 (sp.lo - (d : Int))) ((d : Int) - sp.hi) = costL sp d from rfl]
    generalize hcd : costL sp d = co at hcost hcost2
    refine wp_loop' (Nat × List Wy) (fun x => ⟨[(2, .int c), (3, .int p), (4, .ptr 4 0), (5, .ptr 5 0), (8, .ptr 8 0), (9, .ptr 9 0), (10, .int d), (11, .int co), (20, .int B), (21, .int d), (44, .bsl 5 0 2 (51 - (d : Int)).toNat true), (45, .int ((51 - (d : Int)).toNat : Nat)), (46, .int x.1)],
     [(9, ⟨wcs x.2, false⟩), (8, ⟨wcs (List.replicate 51 ⟨0, 0⟩), false⟩), (5, ⟨wcs s, false⟩), (4, ⟨[.int B, .int b.places, .sl 1 (b.cords.map SS) .sh, SS b.top, .clo g [] caps, .clo g2 [] caps2], false⟩)], [], none⟩)
     (fun x => x.1 ≤ 51 - d ∧ x.2 = (List.range x.1).foldl (addN d co s) out ∧ Okw x.2) (fun x => 51 - x.1) (0, out) ⟨by simp, rfl, hok⟩ (by simp -failIfUnchanged (disch := first|omega|(simp [wcs_len]<;>omega)|fail) only [go_sem,simprocAttr]; try simp) ?_
    rintro ⟨n, u⟩ ⟨hn, hu, huk⟩
    dsimp only at hn hu huk ⊢
    have hul := huk.len
    simp -failIfUnchanged (disch := first|omega|(simp [wcs_len]<;>omega)|fail) only [go_sem,simprocAttr]
    refine wcond_dec (fun hl => ?_) (fun hl => ?_)
    ·have hnd : n + d < 51 := by omega
     simp -failIfUnchanged (disch := first|omega|(simp [wcs_len]<;>omega)|fail) only [go_sem,simprocAttr]
     have ku0 := huk.k0 (n + d) hnd
     have ku1 := huk.k1 (n + d) hnd
     have ks0 := hs.k0 n (by omega)
     have ks1 := hs.k1 n (by omega)
     refine wcond_dec (fun hco => ?_) (fun hco => ?_)
     ·simp -failIfUnchanged (disch := first|omega|(simp [wcs_len]<;>omega)|fail) only [go_sem,simprocAttr]
      refine ⟨(n + 1, addN d co s u n), ⟨by omega, by rw [List.range_succ, List.foldl_append, ← hu]; rfl, okw_addN hs huk hcost hnd⟩, by dsimp only; omega, ?_⟩
      simp -failIfUnchanged (disch := first|omega|(simp [wcs_len]<;>omega)|fail) only [go_sem,simprocAttr]
      have eg : ∀ x : Wy, (u.set (n + d) x)[n + d]?.getD default = x := fun x => by simp [hul, hnd]
      simp only [addN, hco, if_true, eg, List.set_set]
      simp
     ·simp -failIfUnchanged (disch := first|omega|(simp [wcs_len]<;>omega)|fail) only [go_sem,simprocAttr]
      refine ⟨(n + 1, addN d co s u n), ⟨by omega, by rw [List.range_succ, List.foldl_append, ← hu]; rfl, okw_addN hs huk hcost hnd⟩, by dsimp only; omega, ?_⟩
      simp -failIfUnchanged (disch := first|omega|(simp [wcs_len]<;>omega)|fail) only [go_sem,simprocAttr]
      simp [addN, hco]
    ·simp -failIfUnchanged (disch := first|omega|(simp [wcs_len]<;>omega)|fail) only [go_sem,simprocAttr]
     have en : n = 51 - d := by omega
     refine ⟨(d + 1, u), ⟨by omega, ?_, huk⟩, by dsimp only; omega, ?_⟩
     ·dsimp only
      rw [List.range_succ, List.foldl_append, ← hout, hu, en]
      simp only [List.foldl_cons, List.foldl_nil, hm2, if_true, hcd]
      rfl
     ·simp -failIfUnchanged (disch := first|omega|(simp [wcs_len]<;>omega)|fail) only [go_sem,simprocAttr]
      simp
  ·simp -failIfUnchanged (disch := first|omega|(simp [wcs_len]<;>omega)|fail) only [go_sem,simprocAttr]
   have ed : d = B := by omega
   rw [hout, ed]
   rfl
end Go.Proofs.YtggnmemkhookdaaGreatDoor.Kn

set_option linter.unusedSimpArgs false
set_option linter.unusedVariables false
set_option linter.unnecessarySimpa false
namespace Go.Proofs.YtggnmemkhookdaaGreatDoor.Kn
open Go Go.V
structure Val (b : Bk) : Prop where
 hb : 2 ≤ b.base ∧ b.base ≤ 10
 hp : 1 ≤ b.places ∧ b.places ≤ 4
 hc : b.cords.length ≤ 4
 cord : ∀ l ∈ b.cords, (l.length : Int) = b.places ∧ ∀ s ∈ l, 0 ≤ s.lo ∧ s.lo ≤ s.hi ∧ s.hi < b.base
 top : (b.top.length : Int) = b.places ∧ ∀ s ∈ b.top, 0 ≤ s.lo ∧ s.lo ≤ s.hi ∧ s.hi < b.base
def spAt (b : Bk) (c p : Nat) : Sp := (b.cords[c]?.getD default)[p]?.getD default
def topAt (b : Bk) (p : Nat) : Sp := b.top[p]?.getD default
def colL (b : Bk) (may : Nat → Nat → Nat → Bool) (p : Nat) (s : List Wy) (m : Nat) : List Wy :=
 (List.range m).foldl (fun s c => moreL b.base.toNat (may c p) (fun d => costL (spAt b c p) d) s) s
def topN (b : Bk) (may : Nat → Nat → Nat → Bool) (carry : Nat → Nat → Bool) (p : Nat) (s : List Wy) (now : List Wy) (n : Nat) : List Wy :=
 if may b.cords.length p (n % b.base.toNat) && carry p (n / b.base.toNat) then
  now.set (n / b.base.toNat) ⟨min (now[n / b.base.toNat]?.getD default).k ((s[n]?.getD default).k + costL (topAt b p) ((n % b.base.toNat : Nat) : Int)),
   if costL (topAt b p) ((n % b.base.toNat : Nat) : Int) = 0 then w64 ((now[n / b.base.toNat]?.getD default).r + (s[n]?.getD default).r) else (now[n / b.base.toNat]?.getD default).r⟩
 else now
def stepL (b : Bk) (may : Nat → Nat → Nat → Bool) (carry : Nat → Nat → Bool) (p : Nat) (now : List Wy) : List Wy :=
 (List.range 51).foldl (topN b may carry p (colL b may p now b.cords.length)) ((emptyL 0).set 0 ⟨1048576, 0⟩)
def solveF (b : Bk) (may : Nat → Nat → Nat → Bool) (carry : Nat → Nat → Bool) : Nat → List Wy → List Wy
 | 0, now => now
 | q + 1, now => solveF b may carry q (stepL b may carry q now)
def solveL (b : Bk) (may : Nat → Nat → Nat → Bool) (carry : Nat → Nat → Bool) : Wy := (solveF b may carry b.places.toNat (emptyL 0))[0]?.getD default
theorem okw_moreL {base : Nat} {may : Nat → Bool} {cost : Nat → Int} {s : List Wy} (hs : Okw s) (hb : base ≤ 10) (hc : ∀ d, 0 ≤ cost d) : Okw (moreL base may cost s) := by
 have : ∀ m, m ≤ base → Okw ((List.range m).foldl (fun out d => if may d then addD d (cost d) s out else out) ((emptyL 0).set 0 ⟨1048576, 0⟩)) := by
  intro m
  induction m with
  | zero => intro _; exact okw_set okw_empty (by simp) (by simp)
  | succ m ih =>
   intro hm
   rw [List.range_succ, List.foldl_append]
   simp only [List.foldl_cons, List.foldl_nil]
   split
   ·exact okw_addD hs (ih (by omega)) (hc m) (51 - m) (by omega)
   ·exact ih (by omega)
 exact this base (Nat.le_refl _)
theorem costL_nonneg (s : Sp) (d : Int) : 0 ≤ costL s d := by unfold costL; omega
theorem okw_colL {b : Bk} {may : Nat → Nat → Nat → Bool} {p : Nat} {s : List Wy} (hs : Okw s) (hb : b.base.toNat ≤ 10) : ∀ m, Okw (colL b may p s m)
 | 0 => hs
 | m + 1 => by
  unfold colL
  rw [List.range_succ, List.foldl_append]
  exact okw_moreL (okw_colL hs hb m) hb (fun d => costL_nonneg _ _)
theorem okw_topN {b : Bk} {may : Nat → Nat → Nat → Bool} {carry : Nat → Nat → Bool} {p : Nat} {s now : List Wy} {n : Nat} (hs : Okw s) (ho : Okw now) (hn : n < 51) : Okw (topN b may carry p s now n) := by
 unfold topN
 split
 ·have hq : n / b.base.toNat ≤ n := Nat.div_le_self _ _
  have a := hs.k0 n hn
  have h0 := ho.k0 (n / b.base.toNat) (by omega)
  have h1 := ho.k1 (n / b.base.toNat) (by omega)
  have hc := costL_nonneg (topAt b p) ((n % b.base.toNat : Nat) : Int)
  exact okw_set ho (by dsimp only; omega) (by dsimp only; omega)
 ·exact ho
theorem okw_stepL {b : Bk} {may : Nat → Nat → Nat → Bool} {carry : Nat → Nat → Bool} {p : Nat} {now : List Wy} (hs : Okw now) (hb : b.base.toNat ≤ 10) : ∀ m, m ≤ 51 → Okw ((List.range m).foldl (topN b may carry p (colL b may p now b.cords.length)) ((emptyL 0).set 0 ⟨1048576, 0⟩))
 | 0, _ => okw_set okw_empty (by simp) (by simp)
 | m + 1, h => by
  rw [List.range_succ, List.foldl_append]
  exact okw_topN (okw_colL hs hb _) (okw_stepL hs hb m (by omega)) (by omega)
theorem ag136 : aggOf Tryz.prog 136 = some true := by kernel_rfl
theorem sz136 : szOf Tryz.prog 136 = some 2 := by kernel_rfl
attribute [go_sem] ag136 sz136
theorem c82 (b : Bk) (hv : Val b) (g g2 : Nat) (caps caps2 : List AV) (may : Nat → Nat → Nat → Bool) (carry : Nat → Nat → Bool)
  (hmay : ∀ c p d : Nat, c ≤ b.cords.length → p < b.places.toNat → d < b.base.toNat → Ctr Tryz.prog g ([.int c, .int p, .int d] ++ caps) (.bool (may c p d)))
  (hcarry : ∀ p n : Nat, p < b.places.toNat → n ≤ 50 → Ctr Tryz.prog g2 ([.int p, .int n] ++ caps2) (.bool (carry p n))) :
  Ctr Tryz.prog 82 [LM b (.clo g [] caps) (.clo g2 [] caps2)] (.agg [.int (solveL b may carry).k, .int (solveL b may carry).r]) := by
 refine ctr_of_wp hmix Tryz.func82 m82 rfl ?_
 unfold v82
 obtain ⟨hb1, hb2⟩ := hv.hb
 obtain ⟨hp1, hp2⟩ := hv.hp
 have hc4 := hv.hc
 obtain ⟨B, hB⟩ : ∃ B : Nat, b.base = B := ⟨b.base.toNat, by omega⟩
 obtain ⟨PL, hPL⟩ : ∃ p : Nat, b.places = p := ⟨b.places.toNat, by omega⟩
 have hBn : b.base.toNat = B := by omega
 have hPn : b.places.toNat = PL := by omega
 have he : (emptyL 0).length = 51 := okw_empty.len
 simp -failIfUnchanged (disch := first|omega|(simp [wcs_len]<;>omega)|fail) only [go_sem,simprocAttr]
 refine wcall (c93 0 (by omega)) ?_
 simp -failIfUnchanged (disch := first|omega|(simp [wcs_len]<;>omega)|fail) only [go_sem,simprocAttr]
 refine wp_loop' (Nat × List Wy) (fun x => ⟨[(1, .ptr 1 0), (2, .ptr 2 0), (3, .ptr 3 0), (4, .int ((x.1 : Int) - 1))],
  [(3, ⟨wcs x.2, false⟩), (2, ⟨[.int 0, .int 0], false⟩), (1, ⟨[.int b.base, .int b.places, .sl 1 (b.cords.map SS) .sh, SS b.top, .clo g [] caps, .clo g2 [] caps2], false⟩)], [], none⟩)
  (fun x => x.1 ≤ PL ∧ solveF b may carry x.1 x.2 = solveF b may carry PL (emptyL 0) ∧ Okw x.2) (fun x => x.1) (PL, emptyL 0) ⟨by simp, rfl, okw_empty⟩ ?_ ?_
 ·simp -failIfUnchanged (disch := first|omega|(simp [wcs_len]<;>omega)|fail) only [go_sem,simprocAttr]
  omega
 ·rintro ⟨q, now⟩ ⟨hq, hnow, hok⟩
  dsimp only at hq hnow hok ⊢
  have hnl := hok.len
  simp -failIfUnchanged (disch := first|omega|(simp [wcs_len]<;>omega)|fail) only [go_sem,simprocAttr]
  refine wcond_dec (fun h => ?_) (fun h => ?_)
  ·obtain ⟨p, rfl⟩ : ∃ p, q = p + 1 := ⟨q - 1, by omega⟩
   rw [show ((p + 1 : Nat) : Int) - 1 = (p : Int) by omega]
   simp -failIfUnchanged (disch := first|omega|(simp [wcs_len]<;>omega)|fail) only [go_sem,simprocAttr]
   refine wp_loop' (Nat × List Wy) (fun x => ⟨[(1, .ptr 1 0), (2, .ptr 2 0), (3, .ptr 3 0), (4, .int p), (5, .ptr 5 0), (26, .int b.cords.length), (27, .int x.1)],
    [(5, ⟨wcs x.2, false⟩), (3, ⟨wcs now, false⟩), (2, ⟨[.int 0, .int 0], false⟩), (1, ⟨[.int b.base, .int b.places, .sl 1 (b.cords.map SS) .sh, SS b.top, .clo g [] caps, .clo g2 [] caps2], false⟩)], [], none⟩)
    (fun x => x.1 ≤ b.cords.length ∧ x.2 = colL b may p now x.1 ∧ Okw x.2) (fun x => b.cords.length - x.1) (0, now) ⟨by simp, rfl, hok⟩ (by simp -failIfUnchanged (disch := first|omega|(simp [wcs_len]<;>omega)|fail) only [go_sem,simprocAttr]; try simp) ?_
   rintro ⟨c, s⟩ ⟨hc, hs, hsk⟩
   dsimp only at hc hs hsk ⊢
   have hsl := hsk.len
   simp -failIfUnchanged (disch := first|omega|(simp [wcs_len]<;>omega)|fail) only [go_sem,simprocAttr]
   refine wcond_dec (fun hl => ?_) (fun hl => ?_)
   ·simp -failIfUnchanged (disch := first|omega|(simp [wcs_len]<;>omega)|fail) only [go_sem,simprocAttr]
    have hcl : c < b.cords.length := by omega
    have hcd := hv.cord b.cords[c] (List.getElem_mem hcl)
    have hpl : p < b.cords[c].length := by omega
    have hsp := hcd.2 _ (List.getElem_mem hpl)
    have esp : spAt b c p = b.cords[c][p] := by simp [spAt, hcl, hpl]
    refine wcall (c94 b g g2 caps caps2 (may c p) s c p b.cords[c] b.cords[c][p] (by omega) (by omega) (List.getElem?_eq_getElem hcl) (List.getElem?_eq_getElem hpl) (by omega) (by omega) (fun d hd => hmay c p d (by omega) (by omega) (by omega)) hsk) ?_
    have hml : (moreL b.base.toNat (may c p) (fun d => costL b.cords[c][p] d) s).length = 51 := (okw_moreL hsk (by omega) (fun d => costL_nonneg _ _)).len
    simp -failIfUnchanged (disch := first|omega|(simp [wcs_len]<;>omega)|fail) only [go_sem,simprocAttr]
    refine ⟨(c + 1, colL b may p now (c + 1)), ⟨by omega, rfl, okw_colL hok (by omega) _⟩, by dsimp only; omega, ?_⟩
    have ec : colL b may p now (c + 1) = moreL b.base.toNat (may c p) (fun d => costL b.cords[c][p] d) s := by
     unfold colL at hs ⊢
     rw [List.range_succ, List.foldl_append, ← hs]
     simp only [List.foldl_cons, List.foldl_nil, esp]
    rw [ec]
    simp -failIfUnchanged (disch := first|omega|(simp [wcs_len]<;>omega)|fail) only [go_sem,simprocAttr]
    try simp
   ·simp -failIfUnchanged (disch := first|omega|(simp [wcs_len]<;>omega)|fail) only [go_sem,simprocAttr]
    refine wcall (c93 0 (by omega)) ?_
    simp -failIfUnchanged (disch := first|omega|(simp [wcs_len]<;>omega)|fail) only [go_sem,simprocAttr]
    have ecl : c = b.cords.length := by omega
    rw [ecl] at hs
    have em : ∀ n : Nat, Int.tmod (n : Int) b.base = ((n % b.base.toNat : Nat) : Int) := fun n => by rw [hBn, hB]; rfl
    have eq : ∀ n : Nat, Int.tdiv (n : Int) b.base = ((n / b.base.toNat : Nat) : Int) := fun n => by rw [hBn, hB]; rfl
    refine wp_loop' (Nat × List Wy) (fun x => ⟨[(1, .ptr 1 0), (2, .ptr 2 0), (3, .ptr 3 0), (4, .int p), (39, .agg (wcs s)), (40, .int x.1)],
     [(3, ⟨wcs x.2, false⟩), (2, ⟨[.int 0, .int 0], false⟩), (1, ⟨[.int b.base, .int b.places, .sl 1 (b.cords.map SS) .sh, SS b.top, .clo g [] caps, .clo g2 [] caps2], false⟩)], [], none⟩)
     (fun x => x.1 ≤ 51 ∧ x.2 = (List.range x.1).foldl (topN b may carry p s) ((emptyL 0).set 0 ⟨1048576, 0⟩)) (fun x => 51 - x.1) (0, (emptyL 0).set 0 ⟨1048576, 0⟩) ⟨by simp, rfl⟩ (by simp -failIfUnchanged (disch := first|omega|(simp [wcs_len]<;>omega)|fail) only [go_sem,simprocAttr]; try simp) ?_
    rintro ⟨n, u⟩ ⟨hn, hu⟩
    dsimp only at hn hu ⊢
    have huk : Okw u := by
     rw [hu, hs]
     exact okw_stepL hok (by omega) n hn
    have hul := huk.len
    simp -failIfUnchanged (disch := first|omega|(simp [wcs_len]<;>omega)|fail) only [go_sem,simprocAttr]
    refine wcond_dec (fun hl2 => ?_) (fun hl2 => ?_)
    ·have hq1 : n / b.base.toNat ≤ n := Nat.div_le_self _ _
     have hq2 : n % b.base.toNat < b.base.toNat := Nat.mod_lt _ (by omega)
     have hn51 : n < 51 := by omega
     obtain ⟨dg, hdg⟩ : ∃ dg, n % b.base.toNat = dg := ⟨_, rfl⟩
     obtain ⟨ca, hca⟩ : ∃ ca, n / b.base.toNat = ca := ⟨_, rfl⟩
     rw [hdg] at hq2
     rw [hca] at hq1
     simp -failIfUnchanged (disch := first|omega|(simp [wcs_len]<;>omega)|fail) only [go_sem,simprocAttr, em, eq, hdg, hca]
     refine wcall (hmay b.cords.length p dg (by omega) (by omega) (by omega)) ?_
     simp -failIfUnchanged (disch := first|omega|(simp [wcs_len]<;>omega)|fail) only [go_sem,simprocAttr]
     have hnext : u = (List.range n).foldl (topN b may carry p s) ((emptyL 0).set 0 ⟨1048576, 0⟩) → topN b may carry p s u n = (List.range (n + 1)).foldl (topN b may carry p s) ((emptyL 0).set 0 ⟨1048576, 0⟩) := by
      intro hu
      rw [List.range_succ, List.foldl_append, ← hu]
      rfl
     refine WGd_bool (fun hm => ?_) (fun hm => ?_)
     ·simp -failIfUnchanged (disch := first|omega|(simp [wcs_len]<;>omega)|fail) only [go_sem,simprocAttr, hm]
      refine wcall (hcarry p ca (by omega) (by omega)) ?_
      simp -failIfUnchanged (disch := first|omega|(simp [wcs_len]<;>omega)|fail) only [go_sem,simprocAttr]
      refine wcond_bool (fun hk => ?_) (fun hk => ?_)
      ·simp -failIfUnchanged (disch := first|omega|(simp [wcs_len]<;>omega)|fail) only [go_sem,simprocAttr]
       have et : topN b may carry p s u n = u := by
        have hk2 : carry p ca = false := by simpa using hk
        simp [topN, hdg, hca, hk2]
       refine ⟨(n + 1, topN b may carry p s u n), ⟨by omega, hnext hu⟩, by dsimp only; omega, ?_⟩
       rw [et]
       simp -failIfUnchanged (disch := first|omega|(simp [wcs_len]<;>omega)|fail) only [go_sem,simprocAttr]
       try simp
      ·have hm2 : may b.cords.length p dg = true := by simpa using hm
       have hk2 : carry p ca = true := by simpa using hk
       have hpl : p < b.top.length := by have := hv.top.1; omega
       have htp := hv.top.2 _ (List.getElem_mem hpl)
       have etp : topAt b p = b.top[p] := by simp [topAt, hpl]
       have etp2 : b.top[p]?.getD default = b.top[p] := by simp [hpl]
       simp -failIfUnchanged (disch := first|omega|(simp [wcs_len]<;>omega)|fail) only [go_sem,simprocAttr, etp2]
       refine wcall (c95 b.top[p] dg (by omega) (by omega) (by omega)) ?_
       simp -failIfUnchanged (disch := first|omega|(simp [wcs_len]<;>omega)|fail) only [go_sem,simprocAttr]
       rw [show max (max 0 (b.top[p].lo - (dg : Int))) ((dg : Int) - b.top[p].hi) = costL b.top[p] dg from rfl]
       have hcost := costL_nonneg b.top[p] dg
       have hcost2 : costL b.top[p] dg ≤ 2000 := by unfold costL; omega
       have ku0 := huk.k0 ca (by omega)
       have ku1 := huk.k1 ca (by omega)
       have ks0 := hsk.k0 n (by omega)
       have ks1 := hsk.k1 n (by omega)
       generalize hco : costL b.top[p] dg = co at hcost hcost2
       simp -failIfUnchanged (disch := first|omega|(simp [wcs_len]<;>omega)|fail) only [go_sem,simprocAttr]
       have hca51 : ca < 51 := by omega
       refine wcond_dec (fun h0 => ?_) (fun h0 => ?_)
       ·simp -failIfUnchanged (disch := first|omega|(simp [wcs_len]<;>omega)|fail) only [go_sem,simprocAttr]
        refine ⟨(n + 1, topN b may carry p s u n), ⟨by omega, hnext hu⟩, by dsimp only; omega, ?_⟩
        simp -failIfUnchanged (disch := first|omega|(simp [wcs_len]<;>omega)|fail) only [go_sem,simprocAttr]
        have eg : ∀ x : Wy, (u.set ca x)[ca]?.getD default = x := fun x => by simp [hul, hca51]
        simp only [topN, hdg, hca, hm2, hk2, etp, hco, h0, Bool.and_self, if_true, eg, List.set_set]
        simp
       ·simp -failIfUnchanged (disch := first|omega|(simp [wcs_len]<;>omega)|fail) only [go_sem,simprocAttr]
        refine ⟨(n + 1, topN b may carry p s u n), ⟨by omega, hnext hu⟩, by dsimp only; omega, ?_⟩
        simp -failIfUnchanged (disch := first|omega|(simp [wcs_len]<;>omega)|fail) only [go_sem,simprocAttr]
        simp [topN, hdg, hca, hm2, hk2, etp, hco, h0]
     ·simp -failIfUnchanged (disch := first|omega|(simp [wcs_len]<;>omega)|fail) only [go_sem,simprocAttr, hm]
      have hm2 : may b.cords.length p dg = false := by simpa using hm
      have et : topN b may carry p s u n = u := by simp [topN, hdg, hca, hm2]
      refine ⟨(n + 1, topN b may carry p s u n), ⟨by omega, hnext hu⟩, by dsimp only; omega, ?_⟩
      rw [et]
      simp -failIfUnchanged (disch := first|omega|(simp [wcs_len]<;>omega)|fail) only [go_sem,simprocAttr]
      try simp
    ·simp -failIfUnchanged (disch := first|omega|(simp [wcs_len]<;>omega)|fail) only [go_sem,simprocAttr]
     have en : n = 51 := by omega
     rw [en, hs] at hu
     refine ⟨(p, u), ⟨by omega, ?_, huk⟩, by dsimp only; omega, ?_⟩
     ·dsimp only
      rw [← hnow, hu]
      rfl
     ·simp -failIfUnchanged (disch := first|omega|(simp [wcs_len]<;>omega)|fail) only [go_sem,simprocAttr]
  ·simp -failIfUnchanged (disch := first|omega|(simp [wcs_len]<;>omega)|fail) only [go_sem,simprocAttr]
   have e0 : q = 0 := by omega
   subst e0
   have : solveL b may carry = now[0]?.getD default := by
    unfold solveL
    rw [hPn, ← hnow]
    rfl
   rw [this]
end Go.Proofs.YtggnmemkhookdaaGreatDoor.Kn

set_option linter.unusedSimpArgs false
set_option linter.unusedVariables false
set_option linter.unnecessarySimpa false
namespace Go.Proofs.YtggnmemkhookdaaGreatDoor.Kn
open Go Go.V
theorem c80 (c p d : Int) : Ctr Tryz.prog 80 [.int c, .int p, .int d] (.bool true) := by
 refine ctr_of_wp hmix Tryz.func80 m80 rfl ?_
 unfold v80
 simp -failIfUnchanged (disch := first|omega|(simp [wcs_len]<;>omega)|fail) only [go_sem,simprocAttr]
theorem c81 (c p : Int) : Ctr Tryz.prog 81 [.int c, .int p] (.bool true) := by
 refine ctr_of_wp hmix Tryz.func81 m81 rfl ?_
 unfold v81
 simp -failIfUnchanged (disch := first|omega|(simp [wcs_len]<;>omega)|fail) only [go_sem,simprocAttr]
theorem ag84 : aggOf Tryz.prog 84 = some true := by kernel_rfl
theorem sz84 : szOf Tryz.prog 84 = some 6 := by kernel_rfl
attribute [go_sem] ag84 sz84
theorem c65 (b : Bk) : Ctr Tryz.prog 65 [KB b] (LM b (.clo 80 [] []) (.clo 81 [] [])) := by
 refine ctr_of_wp hmix Tryz.func65 m65 rfl ?_
 unfold v65
 simp -failIfUnchanged (disch := first|omega|(simp [wcs_len]<;>omega)|fail) only [go_sem,simprocAttr]
def onlyF (may : Nat → Nat → Nat → Bool) (cord place digit : Nat) (c p d : Nat) : Bool := may c p d && (decide (¬ c = cord) || (decide (¬ p = place) || decide (d = digit)))
abbrev capsO (g : Nat) (caps : List AV) (cord place digit : Nat) : List AV :=
 [.ref 1 [.agg [.clo g [] caps]] 0 0, .ref 1 [.agg [.int cord]] 0 0, .ref 1 [.agg [.int place]] 0 0, .ref 1 [.agg [.int digit]] 0 0]
theorem c68 (g : Nat) (caps : List AV) (may : Nat → Nat → Nat → Bool) (cord place digit c p d : Nat)
  (hmay : Ctr Tryz.prog g ([.int c, .int p, .int d] ++ caps) (.bool (may c p d))) :
  Ctr Tryz.prog 68 ([.int c, .int p, .int d] ++ capsO g caps cord place digit) (.bool (onlyF may cord place digit c p d)) := by
 refine ctr_of_wp hmix Tryz.func68 m68 rfl ?_
 unfold v68
 simp -failIfUnchanged (disch := first|omega|(simp [wcs_len]<;>omega)|fail) only [go_sem,simprocAttr]
 refine wcall hmay ?_
 simp -failIfUnchanged (disch := first|omega|(simp [wcs_len]<;>omega)|fail) only [go_sem,simprocAttr]
 refine WGd_bool (fun h1 => ?_) (fun h1 => ?_)
 ·simp -failIfUnchanged (disch := first|omega|(simp [wcs_len]<;>omega)|fail) only [go_sem,simprocAttr, h1]
  refine WGd_bool (fun h2 => ?_) (fun h2 => ?_)
  ·simp -failIfUnchanged (disch := first|omega|(simp [wcs_len]<;>omega)|fail) only [go_sem,simprocAttr, h1, h2]
   refine WGd_bool (fun h3 => ?_) (fun h3 => ?_)
   ·simp -failIfUnchanged (disch := first|omega|(simp [wcs_len]<;>omega)|fail) only [go_sem,simprocAttr, h1, h2, h3]
    simp only [decide_eq_false_iff_not, Decidable.not_not] at h2 h3
    have e2 : c = cord := by omega
    have e3 : p = place := by omega
    have e4 : ((d : Int) = (digit : Int)) ↔ d = digit := by omega
    rw [e2, e3] at h1
    simp [onlyF, h1, e2, e3, e4]
   ·simp -failIfUnchanged (disch := first|omega|(simp [wcs_len]<;>omega)|fail) only [go_sem,simprocAttr, h1, h2, h3]
    simp only [Bool.not_false, decide_eq_true_eq] at h3
    have e3 : ¬ p = place := by omega
    simp [onlyF, h1, e3]
  ·simp -failIfUnchanged (disch := first|omega|(simp [wcs_len]<;>omega)|fail) only [go_sem,simprocAttr, h1, h2]
   simp only [Bool.not_false, decide_eq_true_eq] at h2
   have e2 : ¬ c = cord := by omega
   simp [onlyF, h1, e2]
 ·simp -failIfUnchanged (disch := first|omega|(simp [wcs_len]<;>omega)|fail) only [go_sem,simprocAttr, h1]
  simp only [Bool.not_true] at h1
  simp [onlyF, h1]
theorem c40 (b : Bk) (g g2 : Nat) (caps caps2 : List AV) (cord place digit : Nat) : Ctr Tryz.prog 40 [LM b (.clo g [] caps) (.clo g2 [] caps2), .int cord, .int place, .int digit] (LM b (.clo 68 [] (capsO g caps cord place digit)) (.clo g2 [] caps2)) := by
 refine ctr_of_wp hmix Tryz.func40 m40 rfl ?_
 unfold v40
 simp -failIfUnchanged (disch := first|omega|(simp [wcs_len]<;>omega)|fail) only [go_sem,simprocAttr]
theorem c66 (b : Bk) (hv : Val b) (g g2 : Nat) (caps caps2 : List AV) (may : Nat → Nat → Nat → Bool) (carry : Nat → Nat → Bool)
  (hmay : ∀ c p d : Nat, c ≤ b.cords.length → p < b.places.toNat → d < b.base.toNat → Ctr Tryz.prog g ([.int c, .int p, .int d] ++ caps) (.bool (may c p d)))
  (hcarry : ∀ p n : Nat, p < b.places.toNat → n ≤ 50 → Ctr Tryz.prog g2 ([.int p, .int n] ++ caps2) (.bool (carry p n))) :
  Ctr Tryz.prog 66 [LM b (.clo g [] caps) (.clo g2 [] caps2)] (.int (solveL b may carry).r) := by
 refine ctr_of_wp hmix Tryz.func66 m66 rfl ?_
 unfold v66
 simp -failIfUnchanged (disch := first|omega|(simp [wcs_len]<;>omega)|fail) only [go_sem,simprocAttr]
 refine wcall (c82 b hv g g2 caps caps2 may carry hmay hcarry) ?_
 simp -failIfUnchanged (disch := first|omega|(simp [wcs_len]<;>omega)|fail) only [go_sem,simprocAttr]
theorem val_of_check {b : Bk} (h : checkB b = true) : Val b := by
 simp only [checkB, within, isCordB, Bool.and_eq_true, decide_eq_true_eq, Bool.not_eq_true', List.any_eq_false, Bool.not_eq_true, Bool.not_eq_false'] at h
 obtain ⟨h1, h2, h3, h4, h5, h6⟩ := h
 have key : ∀ s : Sp, badS b s = false → 0 ≤ s.lo ∧ s.lo ≤ s.hi ∧ s.hi < b.base := by
  intro s hs
  simp only [badS, within, Bool.or_eq_false_iff, Bool.not_eq_false', decide_eq_true_eq, decide_eq_false_iff_not] at hs
  omega
 refine ⟨h1, h2, by omega, fun l hl => ?_, h5, fun s hs => key s (by simpa using h6 s hs)⟩
 have := h4 l hl
 simp only [Bool.and_eq_false_iff, decide_eq_false_iff_not, not_or, Decidable.not_not, Bool.not_eq_false', Bool.not_eq_true, List.any_eq_false] at this
 obtain ⟨k1, k2⟩ := this
 exact ⟨k1, fun s hs => key s (by simpa using k2 s hs)⟩
def yes3 (_ _ _ : Nat) : Bool := true
def yes2 (_ _ : Nat) : Bool := true
theorem c24 (b : Bk) (hs : Small b) (is : Bool) : Ctr Tryz.prog 24 [KB b, .bool is] (.int (if checkB b then if is then 0 else 1 else 110)) := by
 refine ctr_of_wp hmix Tryz.func24 m24 rfl ?_
 unfold v24
 simp -failIfUnchanged (disch := first|omega|(simp [wcs_len]<;>omega)|fail) only [go_sem,simprocAttr]
 refine wcall (c50 b hs) ?_
 cases hc : checkB b with
 | false => simp -failIfUnchanged (disch := first|omega|(simp [wcs_len]<;>omega)|fail) only [go_sem,simprocAttr]
 | true =>
  cases is with
  | false => simp -failIfUnchanged (disch := first|omega|(simp [wcs_len]<;>omega)|fail) only [go_sem,simprocAttr]
  | true => simp -failIfUnchanged (disch := first|omega|(simp [wcs_len]<;>omega)|fail) only [go_sem,simprocAttr]
end Go.Proofs.YtggnmemkhookdaaGreatDoor.Kn

set_option linter.unusedSimpArgs false
set_option linter.unusedVariables false
set_option linter.unnecessarySimpa false
namespace Go.Proofs.YtggnmemkhookdaaGreatDoor.Kn
open Go Go.V
def allC (b : Bk) : List (List Sp) := b.cords ++ [b.top]
theorem wsliceF_len {next : AS → Prop} {σ : AS} {d : Option Nat} {sz : Nat} {es : List AV} {m : VM} {n : Int} (h : n = es.length) : WSliceF sz (.sl sz es m) none (some (.int n)) (some (.int n)) d next σ = next (put d (.sl sz es .full) σ) := by
 subst h
 exact wsliceF_all
theorem c27 (b : Bk) (hs : Small b) : Ctr Tryz.prog 27 [KB b] (.sl 1 ((allC b).map SS) .sh) := by
 refine ctr_of_wp hmix Tryz.func27 m27 rfl ?_
 unfold v27
 have h1 := hs.cords
 simp -failIfUnchanged (disch := first|omega|(simp [wcs_len]<;>omega)|fail) only [go_sem,simprocAttr]
 rw [wsliceF_len (by simp)]
 simp -failIfUnchanged (disch := first|omega|(simp [wcs_len]<;>omega)|fail) only [go_sem,simprocAttr]
 simp [allC]
def numL (base : Int) (l : List Int) : Int := l.foldl (fun n d => w64 (w64 (n * base) + d)) 0
theorem c39 (base : Int) (l : List Int) (hl : l.length < 4294967296) : Ctr Tryz.prog 39 [.int base, IS l] (.int (numL base l)) := by
 refine ctr_of_wp hmix Tryz.func39 m39 rfl ?_
 unfold v39 IS
 simp -failIfUnchanged (disch := first|omega|(simp [wcs_len]<;>omega)|fail) only [go_sem,simprocAttr]
 refine wp_loop' (Nat × Int) (fun x => ⟨[(0, .int base), (5, .int x.2), (8, IS l), (9, .int l.length), (10, .int x.1)], [], [], none⟩) (fun x => x.1 ≤ l.length ∧ x.2 = numL base (l.take x.1)) (fun x => l.length - x.1) (0, 0) (by simp [numL]) (by unfold IS; simp -failIfUnchanged (disch := first|omega|(simp [wcs_len]<;>omega)|fail) only [go_sem,simprocAttr]; try simp) ?_
 rintro ⟨i, n⟩ ⟨hi, hn⟩
 dsimp only at hi hn ⊢
 unfold IS
 simp -failIfUnchanged (disch := first|omega|(simp [wcs_len]<;>omega)|fail) only [go_sem,simprocAttr]
 refine wcond_dec (fun h => ?_) (fun h => ?_)
 ·simp -failIfUnchanged (disch := first|omega|(simp [wcs_len]<;>omega)|fail) only [go_sem,simprocAttr]
  have hlt : i < l.length := by omega
  refine ⟨(i + 1, numL base (l.take (i + 1))), ⟨by omega, rfl⟩, by dsimp only; omega, ?_⟩
  have e : numL base (l.take (i + 1)) = w64 (w64 (n * base) + l[i]?.getD default) := by
   rw [hn]
   unfold numL
   rw [List.take_add_one, List.getElem?_eq_getElem hlt, List.foldl_append]
   rfl
  rw [e]
  simp -failIfUnchanged (disch := first|omega|(simp [wcs_len]<;>omega)|fail) only [go_sem,simprocAttr]
  try simp
 ·simp -failIfUnchanged (disch := first|omega|(simp [wcs_len]<;>omega)|fail) only [go_sem,simprocAttr]
  have e : i = l.length := by omega
  rw [hn, e, List.take_length]
end Go.Proofs.YtggnmemkhookdaaGreatDoor.Kn

set_option linter.unusedSimpArgs false
set_option linter.unusedVariables false
set_option linter.unnecessarySimpa false
namespace Go.Proofs.YtggnmemkhookdaaGreatDoor.Kn
open Go Go.V
theorem c6 (n lo hi : Int) : Ctr Tryz.prog 6 [.int n, .int lo, .int hi] (.bool (within n lo hi)) := by
 refine ctr_of_wp hmix Tryz.func6 m6 rfl ?_
 unfold v6
 simp -failIfUnchanged (disch := first|omega|(simp [wcs_len]<;>omega)|fail) only [go_sem,simprocAttr]
 refine WGd_bool (fun h => ?_) (fun h => ?_)
 ·simp -failIfUnchanged (disch := first|omega|(simp [wcs_len]<;>omega)|fail) only [go_sem,simprocAttr, h]
  simp only [decide_eq_true_eq] at h
  simp [within, h]
 ·simp -failIfUnchanged (disch := first|omega|(simp [wcs_len]<;>omega)|fail) only [go_sem,simprocAttr, h]
  simp only [Bool.not_true, decide_eq_false_iff_not] at h
  simp [within, h]
theorem c16 (n lo hi : Int) : Ctr Tryz.prog 16 [.int n, .int lo, .int hi] (.bool (within n lo hi)) := by
 refine ctr_of_wp hmix Tryz.func16 m16 rfl ?_
 unfold v16
 simp -failIfUnchanged (disch := first|omega|(simp [wcs_len]<;>omega)|fail) only [go_sem,simprocAttr]
 refine wcall (c6 _ _ _) ?_
 simp -failIfUnchanged (disch := first|omega|(simp [wcs_len]<;>omega)|fail) only [go_sem,simprocAttr]
theorem badS_iff (b : Bk) (s : Sp) : badS b s = false ↔ within s.hi 0 (b.base - 1) = true ∧ within s.lo 0 s.hi = true := by
 simp only [badS, within, Bool.or_eq_false_iff, Bool.not_eq_false', decide_eq_true_eq, decide_eq_false_iff_not]
 omega
theorem c17 (b : Bk) (l : List Sp) (hb : 2 ≤ b.base ∧ b.base ≤ 10) (hl : l.length < 4294967296) : Ctr Tryz.prog 17 [KB b, SS l] (.bool (isCordB b l)) := by
 refine ctr_of_wp hmix Tryz.func17 m17 rfl ?_
 unfold v17
 simp -failIfUnchanged (disch := first|omega|(simp [wcs_len]<;>omega)|fail) only [go_sem,simprocAttr]
 refine wcond_dec (fun h => ?_) (fun h => ?_)
 ·simp -failIfUnchanged (disch := first|omega|(simp [wcs_len]<;>omega)|fail) only [go_sem,simprocAttr]
  simp [isCordB, h]
 ·simp only [Decidable.not_not] at h
  simp -failIfUnchanged (disch := first|omega|(simp [wcs_len]<;>omega)|fail) only [go_sem,simprocAttr]
  refine wp_loop' Nat (fun i => ⟨[(1, SS l), (2, .ptr 2 0), (5, .int i)], [(2, ⟨[.int b.base, .int b.places, .sl 1 (b.cords.map SS) .sh, SS b.top], false⟩)], [], none⟩) (fun i => i ≤ l.length ∧ ∀ x ∈ l.take i, badS b x = false) (fun i => l.length - i) 0 (by simp) (by simp -failIfUnchanged (disch := first|omega|(simp [wcs_len]<;>omega)|fail) only [go_sem,simprocAttr]; try rfl) ?_
  rintro i ⟨hi, hpre⟩
  simp -failIfUnchanged (disch := first|omega|(simp [wcs_len]<;>omega)|fail) only [go_sem,simprocAttr]
  refine wcond_dec (fun h2 => ?_) (fun h2 => ?_)
  ·have hlt : i < l.length := by omega
   simp -failIfUnchanged (disch := first|omega|(simp [wcs_len]<;>omega)|fail) only [go_sem,simprocAttr]
   refine wcall (c16 _ _ _) ?_
   simp -failIfUnchanged (disch := first|omega|(simp [wcs_len]<;>omega)|fail) only [go_sem,simprocAttr]
   have no : badS b (l[i]?.getD default) = true → isCordB b l = false := by
    intro hx
    have : l.any (badS b) = true := List.any_eq_true.2 ⟨_, mem_getD hlt, hx⟩
    simp [isCordB, this]
   refine WGd_bool (fun h3 => ?_) (fun h3 => ?_)
   ·simp -failIfUnchanged (disch := first|omega|(simp [wcs_len]<;>omega)|fail) only [go_sem,simprocAttr, h3]
    refine wcall (c16 _ _ _) ?_
    simp -failIfUnchanged (disch := first|omega|(simp [wcs_len]<;>omega)|fail) only [go_sem,simprocAttr]
    refine wcond_bool (fun h4 => ?_) (fun h4 => ?_)
    ·simp -failIfUnchanged (disch := first|omega|(simp [wcs_len]<;>omega)|fail) only [go_sem,simprocAttr]
     rw [no]
     cases hx : badS b (l[i]?.getD default) with
     | true => rfl
     | false => rw [badS_iff] at hx; simp [hx.2] at h4
    ·simp -failIfUnchanged (disch := first|omega|(simp [wcs_len]<;>omega)|fail) only [go_sem,simprocAttr]
     have hx : badS b (l[i]?.getD default) = false := by
      rw [badS_iff]
      simpa using And.intro h3 h4
     refine ⟨i + 1, ⟨by omega, take_succ_all hlt hpre hx⟩, by dsimp only; omega, ?_⟩
     simp -failIfUnchanged (disch := first|omega|(simp [wcs_len]<;>omega)|fail) only [go_sem,simprocAttr]
     try simp
   ·simp -failIfUnchanged (disch := first|omega|(simp [wcs_len]<;>omega)|fail) only [go_sem,simprocAttr, h3]
    rw [no]
    cases hx : badS b (l[i]?.getD default) with
    | true => rfl
    | false => rw [badS_iff] at hx; simp [hx.1] at h3
  ·simp -failIfUnchanged (disch := first|omega|(simp [wcs_len]<;>omega)|fail) only [go_sem,simprocAttr]
   have e : i = l.length := by omega
   rw [e, List.take_length] at hpre
   have : l.any (badS b) = false := List.any_eq_false.2 fun x hx => by simp [hpre x hx]
   simp [isCordB, this, h]
theorem c5 (b : Bk) (hs : Small b) : Ctr Tryz.prog 5 [KB b] (.int (if checkB b then 0 else 110)) := by
 refine ctr_of_wp hmix Tryz.func5 m5 rfl ?_
 unfold v5
 simp -failIfUnchanged (disch := first|omega|(simp [wcs_len]<;>omega)|fail) only [go_sem,simprocAttr]
 refine wcall (c16 _ _ _) ?_
 simp -failIfUnchanged (disch := first|omega|(simp [wcs_len]<;>omega)|fail) only [go_sem,simprocAttr]
 refine WGd_bool (fun h1 => ?_) (fun h1 => ?_)
 ·simp -failIfUnchanged (disch := first|omega|(simp [wcs_len]<;>omega)|fail) only [go_sem,simprocAttr, h1]
  have hb : 2 ≤ b.base ∧ b.base ≤ 10 := by simpa [within] using h1
  refine wcall (c16 _ _ _) ?_
  simp -failIfUnchanged (disch := first|omega|(simp [wcs_len]<;>omega)|fail) only [go_sem,simprocAttr]
  refine WGd_bool (fun h2 => ?_) (fun h2 => ?_)
  ·simp -failIfUnchanged (disch := first|omega|(simp [wcs_len]<;>omega)|fail) only [go_sem,simprocAttr, h2]
   refine WGd_bool (fun h3 => ?_) (fun h3 => ?_)
   ·simp -failIfUnchanged (disch := first|omega|(simp [wcs_len]<;>omega)|fail) only [go_sem,simprocAttr, h3]
    refine wcall (c17 b b.top hb hs.top) ?_
    simp -failIfUnchanged (disch := first|omega|(simp [wcs_len]<;>omega)|fail) only [go_sem,simprocAttr]
    refine wcond_bool (fun h4 => ?_) (fun h4 => ?_)
    ·simp -failIfUnchanged (disch := first|omega|(simp [wcs_len]<;>omega)|fail) only [go_sem,simprocAttr]
     simp_all [checkB]
    ·simp -failIfUnchanged (disch := first|omega|(simp [wcs_len]<;>omega)|fail) only [go_sem,simprocAttr]
     refine wp_loop' Nat (fun i => ⟨[(1, .ptr 1 0), (3, .int i)], [(1, ⟨[.int b.base, .int b.places, .sl 1 (b.cords.map SS) .sh, SS b.top], false⟩)], [], none⟩) (fun i => i ≤ b.cords.length ∧ ∀ x ∈ b.cords.take i, (!isCordB b x) = false) (fun i => b.cords.length - i) 0 (by simp) (by simp -failIfUnchanged (disch := first|omega|(simp [wcs_len]<;>omega)|fail) only [go_sem,simprocAttr]; try rfl) ?_
     rintro i ⟨hi, hpre⟩
     have hcl := hs.cords
     simp -failIfUnchanged (disch := first|omega|(simp [wcs_len]<;>omega)|fail) only [go_sem,simprocAttr]
     refine wcond_dec (fun h5 => ?_) (fun h5 => ?_)
     ·have hlt : i < b.cords.length := by omega
      simp -failIfUnchanged (disch := first|omega|(simp [wcs_len]<;>omega)|fail) only [go_sem,simprocAttr]
      refine wcall (c17 b _ hb (hs.each _ (mem_getD hlt))) ?_
      simp -failIfUnchanged (disch := first|omega|(simp [wcs_len]<;>omega)|fail) only [go_sem,simprocAttr]
      refine wcond_bool (fun h6 => ?_) (fun h6 => ?_)
      ·simp -failIfUnchanged (disch := first|omega|(simp [wcs_len]<;>omega)|fail) only [go_sem,simprocAttr]
       have : b.cords.any (fun l => !isCordB b l) = true := List.any_eq_true.2 ⟨_, mem_getD hlt, h6⟩
       have hc : checkB b = false := by
        simp only [checkB, this]
        simp
       simp [hc]
      ·simp -failIfUnchanged (disch := first|omega|(simp [wcs_len]<;>omega)|fail) only [go_sem,simprocAttr]
       refine ⟨i + 1, ⟨by omega, take_succ_all (p := fun x => !isCordB b x) hlt hpre h6⟩, by dsimp only; omega, ?_⟩
       simp -failIfUnchanged (disch := first|omega|(simp [wcs_len]<;>omega)|fail) only [go_sem,simprocAttr]
       try simp
     ·simp -failIfUnchanged (disch := first|omega|(simp [wcs_len]<;>omega)|fail) only [go_sem,simprocAttr]
      have e : i = b.cords.length := by omega
      rw [e, List.take_length] at hpre
      have : b.cords.any (fun l => !isCordB b l) = false := List.any_eq_false.2 fun x hx => by simp [hpre x hx]
      have hc : checkB b = true := by
       simp only [checkB, this]
       simp at h1 h2 h3 h4
       simp [h1, h2, h3, h4]
      simp [hc]
   ·simp -failIfUnchanged (disch := first|omega|(simp [wcs_len]<;>omega)|fail) only [go_sem,simprocAttr, h3]
    simp_all [checkB]
    intro hc
    omega
  ·simp -failIfUnchanged (disch := first|omega|(simp [wcs_len]<;>omega)|fail) only [go_sem,simprocAttr, h2]
   simp_all [checkB]
 ·simp -failIfUnchanged (disch := first|omega|(simp [wcs_len]<;>omega)|fail) only [go_sem,simprocAttr, h1]
  simp_all [checkB]
def allN (b : Bk) : Nat := b.base.toNat ^ b.places.toNat
theorem pow_le {B P : Nat} (hB : B ≤ 10) (hP : P ≤ 4) : B ^ P ≤ 10000 :=
 Nat.le_trans (Nat.pow_le_pow_left hB P) (Nat.le_trans (Nat.pow_le_pow_right (by omega) hP) (by decide))
theorem c9 (b : Bk) (hv : Val b) : Ctr Tryz.prog 9 [KB b] (.int (allN b)) := by
 refine ctr_of_wp hmix Tryz.func9 m9 rfl ?_
 unfold v9
 obtain ⟨hb1, hb2⟩ := hv.hb
 obtain ⟨hp1, hp2⟩ := hv.hp
 simp -failIfUnchanged (disch := first|omega|(simp [wcs_len]<;>omega)|fail) only [go_sem,simprocAttr]
 refine wp_loop' Nat (fun i => ⟨[(1, .ptr 1 0), (3, .int (b.base.toNat ^ i : Nat)), (4, .int i)], [(1, ⟨[.int b.base, .int b.places, .sl 1 (b.cords.map SS) .sh, SS b.top], false⟩)], [], none⟩) (fun i => i ≤ b.places.toNat) (fun i => b.places.toNat - i) 0 (by simp) (by simp -failIfUnchanged (disch := first|omega|(simp [wcs_len]<;>omega)|fail) only [go_sem,simprocAttr]; try simp) ?_
 rintro i hi
 simp -failIfUnchanged (disch := first|omega|(simp [wcs_len]<;>omega)|fail) only [go_sem,simprocAttr]
 refine wcond_dec (fun h => ?_) (fun h => ?_)
 ·have e : ((b.base.toNat ^ i : Nat) : Int) * b.base = ((b.base.toNat ^ (i + 1) : Nat) : Int) := by
   rw [Nat.pow_succ, Int.natCast_mul, Int.toNat_of_nonneg (by omega : 0 ≤ b.base)]
  have hle := pow_le (B := b.base.toNat) (P := i + 1) (by omega) (by omega)
  simp -failIfUnchanged (disch := first|omega|(simp [wcs_len]<;>omega)|fail) only [go_sem,simprocAttr, e]
  refine ⟨i + 1, by omega, by dsimp only; omega, ?_⟩
  simp -failIfUnchanged (disch := first|omega|(simp [wcs_len]<;>omega)|fail) only [go_sem,simprocAttr]
  try simp
 ·simp -failIfUnchanged (disch := first|omega|(simp [wcs_len]<;>omega)|fail) only [go_sem,simprocAttr]
  have e : i = b.places.toNat := by omega
  rw [e]
  rfl
end Go.Proofs.YtggnmemkhookdaaGreatDoor.Kn

set_option linter.unusedSimpArgs false
set_option linter.unusedVariables false
set_option linter.unnecessarySimpa false
namespace Go.Proofs.YtggnmemkhookdaaGreatDoor.Kn
open Go Go.V
def cordAt (b : Bk) (n : Nat) : List Sp := if n = b.cords.length then b.top else b.cords[n]?.getD default
def fitsL (l : List Sp) (ds : List Int) : Bool := (List.range l.length).all fun i => within (ds[i]?.getD default) (l[i]?.getD default).lo (l[i]?.getD default).hi
end Go.Proofs.YtggnmemkhookdaaGreatDoor.Kn

set_option linter.unusedSimpArgs false
set_option linter.unusedVariables false
set_option linter.unnecessarySimpa false
namespace Go.Proofs.YtggnmemkhookdaaGreatDoor.Kn
open Go Go.V
theorem zeros_ints (n : Nat) : zeros [.int 0] n = (List.replicate n (0 : Int)).map .int := by
 induction n with
 | zero => rfl
 | succ n ih => simp only [zeros, List.replicate_succ, List.map_cons, ih]; rfl
theorem setAt_ints {xs : List Int} {i : Nat} {x : Int} (h : i < xs.length) : setAt (xs.map .int) i [.int x] = (xs.set i x).map .int := by
 induction xs generalizing i with
 | nil => simp at h
 | cons w l ih =>
  cases i with
  | zero => rfl
  | succ i =>
   simp only [List.map_cons, setAt, List.set_cons_succ]
   rw [ih (by simpa using h)]
theorem map_ints {xs : List Int} {hp : List (Nat × BX)} : (xs.map AV.int).map (strip hp) = xs.map .int := by
 rw [List.map_map]
 rfl
theorem bids_ints {xs : List Int} : bids (xs.map AV.int) = [] := by
 induction xs with
 | nil => rfl
 | cons w l ih => simp only [List.map_cons, bids, AV.bid, AV.bid1, ih, List.append_nil]
theorem scopes_ints {τ : AS} {xs : List Int} : scopes τ (xs.map AV.int) = True := by
 induction xs with
 | nil => rfl
 | cons w l ih => simp only [List.map_cons, scopes, inScope, ih, and_self]
theorem chunks_ints {xs : List Int} {n : Nat} (h : n = xs.length) : chunks false 1 (xs.map AV.int) 0 n = xs.map .int := by
 subst h
 apply List.ext_getElem?
 intro i
 rcases Nat.lt_or_ge i xs.length with hi | hi
 ·rw [chunks_get _ _ _ _ _ _ hi]
  simp [chunk, hi]
 ·rw [List.getElem?_eq_none (by rw [chunks_length]; exact hi), List.getElem?_eq_none (by simpa using hi)]
attribute [go_sem] zeros_ints setAt_ints map_ints bids_ints scopes_ints
def tieN (B : Nat) : Nat → Nat → List Int
 | 0, _ => []
 | P + 1, n => tieN B P (n / B) ++ [((n % B : Nat) : Int)]
theorem tieN_len (B : Nat) : ∀ P n, (tieN B P n).length = P
 | 0, _ => rfl
 | P + 1, n => by simp [tieN, tieN_len B P]
end Go.Proofs.YtggnmemkhookdaaGreatDoor.Kn

set_option linter.unusedSimpArgs false
set_option linter.unusedVariables false
set_option linter.unnecessarySimpa false
namespace Go.Proofs.YtggnmemkhookdaaGreatDoor.Kn
open Go Go.V
theorem allN_le {b : Bk} (hv : Val b) : allN b ≤ 10000 := by
 obtain ⟨hb1, hb2⟩ := hv.hb
 obtain ⟨hp1, hp2⟩ := hv.hp
 exact pow_le (by omega) (by omega)
def isN (b : Bk) (cord : Nat) (freely : Bool) (n : Nat) : Bool := freely || fitsL (cordAt b cord) (tieN b.base.toNat b.places.toNat n)
theorem cordAt_val {b : Bk} (hv : Val b) {n : Nat} (hn : n ≤ b.cords.length) : ((cordAt b n).length : Int) = b.places ∧ ∀ s ∈ cordAt b n, 0 ≤ s.lo ∧ s.lo ≤ s.hi ∧ s.hi < b.base := by
 unfold cordAt
 split
 ·exact hv.top
 ·have hlt : n < b.cords.length := by omega
  exact hv.cord _ (mem_getD hlt)
end Go.Proofs.YtggnmemkhookdaaGreatDoor.Kn

set_option linter.unusedSimpArgs false
set_option linter.unusedVariables false
set_option linter.unnecessarySimpa false
namespace Go.Proofs.YtggnmemkhookdaaGreatDoor.Kn
open Go Go.V
end Go.Proofs.YtggnmemkhookdaaGreatDoor.Kn

set_option linter.unusedSimpArgs false
set_option linter.unusedVariables false
set_option linter.unnecessarySimpa false
namespace Go.Proofs.YtggnmemkhookdaaGreatDoor.Kn
open Go Go.V
end Go.Proofs.YtggnmemkhookdaaGreatDoor.Kn

set_option linter.unusedSimpArgs false
set_option linter.unusedVariables false
set_option linter.unnecessarySimpa false
namespace Go.Proofs.YtggnmemkhookdaaGreatDoor.Kn
open Go Go.V
def spanL (l : List Int) (m : Nat) : Sp := (l.take m).foldl (fun s x => ⟨min s.lo x, max s.hi x⟩) ⟨l[0]?.getD default, l[0]?.getD default⟩
theorem ag35 : aggOf Tryz.prog 35 = some true := by kernel_rfl
theorem sz35 : szOf Tryz.prog 35 = some 2 := by kernel_rfl
attribute [go_sem] ag35 sz35
end Go.Proofs.YtggnmemkhookdaaGreatDoor.Kn

set_option linter.unusedSimpArgs false
set_option linter.unusedVariables false
set_option linter.unnecessarySimpa false
namespace Go.Proofs.YtggnmemkhookdaaGreatDoor.Kn
open Go Go.V
def sumsN (b : Bk) (freely : Bool) : Nat → List Nat → List (List Nat)
 | 0, first => if first.sum < allN b && (freely || fitsL b.top (tieN b.base.toNat b.places.toNat first.sum)) then [first ++ [first.sum]] else []
 | k + 1, first => ((List.range (allN b)).filter (isN b first.length freely)).flatMap fun n => sumsN b freely k (first ++ [n])
theorem sumsN_mem (b : Bk) (freely : Bool) : ∀ (k : Nat) (first l : List Nat), (∀ x ∈ first, x < allN b) → l ∈ sumsN b freely k first → l.length = first.length + k + 1 ∧ ∀ x ∈ l, x < allN b
 | 0, first, l, hf, hl => by
  unfold sumsN at hl
  split at hl
  ·rename_i h
   simp only [Bool.and_eq_true, decide_eq_true_eq] at h
   simp only [List.mem_singleton] at hl
   subst hl
   refine ⟨by simp, fun x hx => ?_⟩
   rcases List.mem_append.1 hx with hx | hx
   ·exact hf x hx
   ·simp at hx; subst hx; exact h.1
  ·simp at hl
 | k + 1, first, l, hf, hl => by
  unfold sumsN at hl
  obtain ⟨n, hn, hl⟩ := List.mem_flatMap.1 hl
  have hn2 : n < allN b := List.mem_range.1 (List.mem_filter.1 hn).1
  have := sumsN_mem b freely k (first ++ [n]) l (fun x hx => by
   rcases List.mem_append.1 hx with hx | hx
   ·exact hf x hx
   ·simp at hx; subst hx; exact hn2) hl
  refine ⟨by rw [this.1]; simp; omega, this.2⟩
end Go.Proofs.YtggnmemkhookdaaGreatDoor.Kn

set_option linter.unusedSimpArgs false
set_option linter.unusedVariables false
set_option linter.unnecessarySimpa false
namespace Go.Proofs.YtggnmemkhookdaaGreatDoor.Kn
open Go Go.V
abbrev allNs (b : Bk) : List (List Nat) := sumsN b false b.cords.length []
theorem allNs_mem {b : Bk} {l : List Nat} (h : l ∈ allNs b) : l.length = b.cords.length + 1 ∧ ∀ x ∈ l, x < allN b := by
 have := sumsN_mem b false b.cords.length [] l (by simp) h
 simpa using this
def colS (b : Bk) (c : Nat) (m : Nat) : List Int := ((allNs b).take m).map fun l => ((l[c]?.getD default : Nat) : Int)
end Go.Proofs.YtggnmemkhookdaaGreatDoor.Kn

set_option linter.unusedSimpArgs false
set_option linter.unusedVariables false
set_option linter.unnecessarySimpa false
namespace Go.Proofs.YtggnmemkhookdaaGreatDoor.Kn
open Go Go.V
end Go.Proofs.YtggnmemkhookdaaGreatDoor.Kn

set_option linter.unusedSimpArgs false
set_option linter.unusedVariables false
set_option linter.unnecessarySimpa false
namespace Go.Proofs.YtggnmemkhookdaaGreatDoor.Kn
open Go Go.V
abbrev capsD (b : Bk) (m m2 : AV) (cord place : Nat) : List AV :=
 [.ref 6 [LM b m m2] 0 0, .ref 1 [.agg [.int cord]] 0 0, .ref 1 [.agg [.int place]] 0 0]
theorem c67 (b : Bk) (g g2 : Nat) (caps caps2 : List AV) (cord place : Nat) : Ctr Tryz.prog 67 [LM b (.clo g [] caps) (.clo g2 [] caps2), .int cord, .int place] (.clo 83 [] (capsD b (.clo g [] caps) (.clo g2 [] caps2) cord place)) := by
 refine ctr_of_wp hmix Tryz.func67 m67 rfl ?_
 unfold v67
 simp -failIfUnchanged (disch := first|omega|(simp [wcs_len]<;>omega)|fail) only [go_sem,simprocAttr]
def manyD (b : Bk) (may : Nat → Nat → Nat → Bool) (carry : Nat → Nat → Bool) (cord place d : Nat) : Int := (solveL b (onlyF may cord place d) carry).r
def spanD (b : Bk) (may : Nat → Nat → Nat → Bool) (carry : Nat → Nat → Bool) (cord place : Nat) (m : Nat) : Sp :=
 (List.range m).foldl (fun s d => if 0 < manyD b may carry cord place d then ⟨min s.lo d, max s.hi d⟩ else s) ⟨b.base, 0⟩
theorem ag42b : aggOf Tryz.prog 35 = some true := by kernel_rfl
theorem sz42b : szOf Tryz.prog 35 = some 2 := by kernel_rfl
attribute [go_sem] ag42b sz42b
theorem c38 (b : Bk) (hv : Val b) (g g2 : Nat) (caps caps2 : List AV) (may : Nat → Nat → Nat → Bool) (carry : Nat → Nat → Bool)
  (hmay : ∀ c p d : Nat, c ≤ b.cords.length → p < b.places.toNat → d < b.base.toNat → Ctr Tryz.prog g ([.int c, .int p, .int d] ++ caps) (.bool (may c p d)))
  (hcarry : ∀ p n : Nat, p < b.places.toNat → n ≤ 50 → Ctr Tryz.prog g2 ([.int p, .int n] ++ caps2) (.bool (carry p n))) (cord place : Nat) :
  Ctr Tryz.prog 38 [LM b (.clo g [] caps) (.clo g2 [] caps2), .int cord, .int place] (SP (spanD b may carry cord place b.base.toNat)) := by
 refine ctr_of_wp hmix Tryz.func38 m38 rfl ?_
 unfold v38
 simp -failIfUnchanged (disch := first|omega|(simp [wcs_len]<;>omega)|fail) only [go_sem,simprocAttr]
 refine wcall (c67 b g g2 caps caps2 cord place) ?_
 simp -failIfUnchanged (disch := first|omega|(simp [wcs_len]<;>omega)|fail) only [go_sem,simprocAttr]
 refine wp_range' ?_
 simp -failIfUnchanged (disch := first|omega|(simp [wcs_len]<;>omega)|fail) only [go_sem,simprocAttr]
 refine wrange fun l T hT => ?_
 refine csem_of_wp hmix Tryz.func83 m83 rfl rfl ?_
 unfold v83
 simp -failIfUnchanged (disch := first|omega|(simp [wcs_len]<;>omega)|fail) only [go_sem,simprocAttr]
 obtain ⟨hb1, hb2⟩ := hv.hb
 have hB : ((b.base.toNat : Nat) : Int) = b.base := by omega
 refine wp_loopX (Nat × Sp) (fun x => ⟨[(0, .yld l), (1, .ref 6 [LM b (.clo g [] caps) (.clo g2 [] caps2)] 0 0), (2, .ref 1 [.agg [.int cord]] 0 0), (3, .ref 1 [.agg [.int place]] 0 0), (9, .int b.base), (10, .int x.1)], [(7, ⟨[.int x.2.lo, .int x.2.hi], false⟩), (6, ⟨[.int 0, .int 0], false⟩)], [], none⟩)
  (fun x => x.1 ≤ b.base.toNat ∧ x.2 = spanD b may carry cord place x.1) (fun x => b.base.toNat - x.1) (0, spanD b may carry cord place 0) (by simp) (by simp -failIfUnchanged (disch := first|omega|(simp [wcs_len]<;>omega)|fail) only [go_sem,simprocAttr]; try simp [spanD]) (fun x => by simp -failIfUnchanged (disch := first|omega|(simp [wcs_len]<;>omega)|fail) only [go_sem,simprocAttr]) ?_
 rintro ⟨d, s⟩ ⟨hd, hs⟩
 simp only at hd hs
 have hsucc : spanD b may carry cord place (d + 1) = if 0 < manyD b may carry cord place d then ⟨min s.lo d, max s.hi d⟩ else s := by
  rw [hs, spanD, List.range_succ, List.foldl_append]
  rfl
 simp -failIfUnchanged (disch := first|omega|(simp [wcs_len]<;>omega)|fail) only [go_sem,simprocAttr]
 refine wcond_dec (fun h => ?_) (fun h => ?_)
 ·simp -failIfUnchanged (disch := first|omega|(simp [wcs_len]<;>omega)|fail) only [go_sem,simprocAttr]
  refine wcall (c40 b g g2 caps caps2 cord place d) ?_
  simp -failIfUnchanged (disch := first|omega|(simp [wcs_len]<;>omega)|fail) only [go_sem,simprocAttr]
  refine wcall (c66 b hv 68 g2 _ caps2 (onlyF may cord place d) carry (fun c p d' h1 h2 h3 => c68 g caps may cord place d c p d' (hmay c p d' h1 h2 h3)) hcarry) ?_
  simp -failIfUnchanged (disch := first|omega|(simp [wcs_len]<;>omega)|fail) only [go_sem,simprocAttr]
  refine WGd_bool (fun h1 => ?_) (fun h1 => ?_)
  ·simp -failIfUnchanged (disch := first|omega|(simp [wcs_len]<;>omega)|fail) only [go_sem,simprocAttr, h1]
   refine wyield (hT _ _ _ _ _ rfl ?_)
   simp -failIfUnchanged (disch := first|omega|(simp [wcs_len]<;>omega)|fail) only [go_sem,simprocAttr, h1]
   have h1' : 0 < manyD b may carry cord place d := by simpa [manyD] using h1
   refine ⟨(d + 1, ⟨min s.lo d, max s.hi d⟩), ⟨by dsimp only; omega, by rw [hsucc, if_pos h1']⟩, by dsimp only; omega, ?_⟩
   simp -failIfUnchanged (disch := first|omega|(simp [wcs_len]<;>omega)|fail) only [go_sem,simprocAttr]
   try simp
  ·simp -failIfUnchanged (disch := first|omega|(simp [wcs_len]<;>omega)|fail) only [go_sem,simprocAttr, h1]
   have h1' : ¬ 0 < manyD b may carry cord place d := by simpa [manyD] using h1
   refine ⟨(d + 1, s), ⟨by dsimp only; omega, by rw [hsucc, if_neg h1']⟩, by dsimp only; omega, ?_⟩
   simp -failIfUnchanged (disch := first|omega|(simp [wcs_len]<;>omega)|fail) only [go_sem,simprocAttr]
   try simp
 ·simp -failIfUnchanged (disch := first|omega|(simp [wcs_len]<;>omega)|fail) only [go_sem,simprocAttr]
  have ed : d = b.base.toNat := by omega
  rw [hs, ed]
end Go.Proofs.YtggnmemkhookdaaGreatDoor.Kn

set_option linter.unusedSimpArgs false
set_option linter.unusedVariables false
set_option linter.unnecessarySimpa false
namespace Go.Proofs.YtggnmemkhookdaaGreatDoor.Kn
open Go Go.V
abbrev LM0 : AV := .agg [.int 0, .int 0, .sl 1 [] .sh, .sl 2 [] .sh, .und, .und]
def knownR (b : Bk) (is : Bool) : AV :=
 if checkB b then
  if is then
   if (solveL b yes3 yes2).r = 0 then .tup [LM0, .int 3] else .tup [LM b (.clo 80 [] []) (.clo 81 [] []), .int 0]
  else .tup [LM0, .int 1]
 else .tup [LM0, .int 110]
theorem c36g (b : Bk) (hs : Small b) (is : Bool) : Ctr Tryz.prog 36 [KB b, .bool is] (knownR b is) := by
 refine ctr_of_wp hmix Tryz.func36 m36 rfl ?_
 unfold v36 knownR
 simp -failIfUnchanged (disch := first|omega|(simp [wcs_len]<;>omega)|fail) only [go_sem,simprocAttr]
 refine wcall (c24 b hs is) ?_
 cases hc : checkB b with
 | false => simp -failIfUnchanged (disch := first|omega|(simp [wcs_len]<;>omega)|fail) only [go_sem,simprocAttr]
 | true =>
  cases is with
  | false => simp -failIfUnchanged (disch := first|omega|(simp [wcs_len]<;>omega)|fail) only [go_sem,simprocAttr]
  | true =>
   simp -failIfUnchanged (disch := first|omega|(simp [wcs_len]<;>omega)|fail) only [go_sem,simprocAttr]
   refine wcall (c65 b) ?_
   simp -failIfUnchanged (disch := first|omega|(simp [wcs_len]<;>omega)|fail) only [go_sem,simprocAttr]
   refine wcall (c66 b (val_of_check hc) 80 81 [] [] yes3 yes2 (fun c p d _ _ _ => c80 c p d) (fun p n _ _ => c81 p n)) ?_
   simp -failIfUnchanged (disch := first|omega|(simp [wcs_len]<;>omega)|fail) only [go_sem,simprocAttr]
   refine wcond_dec (fun h => ?_) (fun h => ?_)
   ·simp -failIfUnchanged (disch := first|omega|(simp [wcs_len]<;>omega)|fail) only [go_sem,simprocAttr, h]
   ·simp -failIfUnchanged (disch := first|omega|(simp [wcs_len]<;>omega)|fail) only [go_sem,simprocAttr, h]
def ansR (b : Bk) (is : Bool) (z v : AV) : AV :=
 if checkB b then
  if is then
   if (solveL b yes3 yes2).r = 0 then .tup [z, .int 3] else .tup [v, .int 0]
  else .tup [z, .int 1]
 else .tup [z, .int 110]
end Go.Proofs.YtggnmemkhookdaaGreatDoor.Kn

set_option linter.unusedSimpArgs false
set_option linter.unusedVariables false
set_option linter.unnecessarySimpa false
namespace Go.Proofs.YtggnmemkhookdaaGreatDoor.Kn
open Go Go.V
theorem c41 (s : Sp) : Ctr Tryz.prog 41 [SP s] (.int s.lo) := by
 refine ctr_of_wp hmix Tryz.func41 m41 rfl ?_
 unfold v41
 simp -failIfUnchanged (disch := first|omega|(simp [wcs_len]<;>omega)|fail) only [go_sem,simprocAttr]
theorem c42 (s : Sp) : Ctr Tryz.prog 42 [SP s] (.int s.hi) := by
 refine ctr_of_wp hmix Tryz.func42 m42 rfl ?_
 unfold v42
 simp -failIfUnchanged (disch := first|omega|(simp [wcs_len]<;>omega)|fail) only [go_sem,simprocAttr]
theorem spanD_bound (b : Bk) (hb : 2 ≤ b.base) (may : Nat → Nat → Nat → Bool) (carry : Nat → Nat → Bool) (cord place : Nat) : ∀ m, m ≤ b.base.toNat →
  0 ≤ (spanD b may carry cord place m).lo ∧ (spanD b may carry cord place m).lo ≤ b.base ∧ 0 ≤ (spanD b may carry cord place m).hi ∧ (spanD b may carry cord place m).hi ≤ b.base
 | 0, _ => by simp [spanD]; omega
 | m + 1, h => by
  have ih := spanD_bound b hb may carry cord place m (by omega)
  have e : spanD b may carry cord place (m + 1) = if 0 < manyD b may carry cord place m then ⟨min (spanD b may carry cord place m).lo m, max (spanD b may carry cord place m).hi m⟩ else spanD b may carry cord place m := by
   unfold spanD
   rw [List.range_succ, List.foldl_append]
   rfl
  rw [e]
  split
  ·dsimp only; omega
  ·exact ih
def endF (b : Bk) (carry : Nat → Nat → Bool) (cord : Nat) (sel : Sp → Int) : Nat → Nat → (Nat → Nat → Nat → Bool) → Int → Int
 | _, 0, _, n => n
 | p, k + 1, may, n => endF b carry cord sel (p + 1) k (onlyF may cord p (sel (spanD b may carry cord p b.base.toNat)).toNat) (numL b.base [n, sel (spanD b may carry cord p b.base.toNat)])
theorem c37 (b : Bk) (hv : Val b) (g g2 : Nat) (caps caps2 : List AV) (may : Nat → Nat → Nat → Bool) (carry : Nat → Nat → Bool)
  (hmay : ∀ c p d : Nat, c ≤ b.cords.length → p < b.places.toNat → d < b.base.toNat → Ctr Tryz.prog g ([.int c, .int p, .int d] ++ caps) (.bool (may c p d)))
  (hcarry : ∀ p n : Nat, p < b.places.toNat → n ≤ 50 → Ctr Tryz.prog g2 ([.int p, .int n] ++ caps2) (.bool (carry p n))) (cord : Nat)
  (gs : Nat) (sel : Sp → Int) (hsel : ∀ s : Sp, Ctr Tryz.prog gs [SP s] (.int (sel s))) (hsel2 : ∀ s : Sp, sel s = s.lo ∨ sel s = s.hi) :
  Ctr Tryz.prog 37 [.clo gs [] [], .ref 6 [LM b (.clo g [] caps) (.clo g2 [] caps2)] 0 0, .ref 4 [KB b] 0 0, .ref 1 [.agg [.int cord]] 0 0] (.int (endF b carry cord sel 0 b.places.toNat may 0)) := by
 refine ctr_of_wp hmix Tryz.func37 m37 rfl ?_
 unfold v37
 obtain ⟨hb1, hb2⟩ := hv.hb
 obtain ⟨hp1, hp2⟩ := hv.hp
 obtain ⟨PL, hPL⟩ : ∃ p : Nat, b.places = p := ⟨b.places.toNat, by omega⟩
 have hPn : b.places.toNat = PL := by omega
 simp -failIfUnchanged (disch := first|omega|(simp [wcs_len]<;>omega)|fail) only [go_sem,simprocAttr]
 refine wp_loop' (Nat × Nat × List AV × (Nat → Nat → Nat → Bool) × Int) (fun x => ⟨[(0, .clo gs [] []), (2, .ref 4 [KB b] 0 0), (3, .ref 1 [.agg [.int cord]] 0 0), (6, .int x.2.2.2.2), (7, .ptr 7 0), (12, .int b.places), (13, .int x.1)],
  [(7, ⟨[.int b.base, .int b.places, .sl 1 (b.cords.map SS) .sh, SS b.top, .clo x.2.1 [] x.2.2.1, .clo g2 [] caps2], false⟩)], [], none⟩)
  (fun x => x.1 ≤ PL ∧ (∀ c p d : Nat, c ≤ b.cords.length → p < b.places.toNat → d < b.base.toNat → Ctr Tryz.prog x.2.1 ([.int c, .int p, .int d] ++ x.2.2.1) (.bool (x.2.2.2.1 c p d))) ∧ endF b carry cord sel x.1 (PL - x.1) x.2.2.2.1 x.2.2.2.2 = endF b carry cord sel 0 PL may 0)
  (fun x => PL - x.1) (0, g, caps, may, 0) ⟨by simp, hmay, by simp⟩ (by simp -failIfUnchanged (disch := first|omega|(simp [wcs_len]<;>omega)|fail) only [go_sem,simprocAttr]; try simp) ?_
 rintro ⟨p, g', caps', may', n⟩ ⟨hp, hm, he⟩
 dsimp only at hp hm he ⊢
 simp -failIfUnchanged (disch := first|omega|(simp [wcs_len]<;>omega)|fail) only [go_sem,simprocAttr]
 refine wcond_dec (fun h => ?_) (fun h => ?_)
 ·simp -failIfUnchanged (disch := first|omega|(simp [wcs_len]<;>omega)|fail) only [go_sem,simprocAttr]
  have hlt : p < PL := by omega
  refine wcall (c38 b hv g' g2 caps' caps2 may' carry hm hcarry cord p) ?_
  simp -failIfUnchanged (disch := first|omega|(simp [wcs_len]<;>omega)|fail) only [go_sem,simprocAttr]
  refine wcall (hsel _) ?_
  simp -failIfUnchanged (disch := first|omega|(simp [wcs_len]<;>omega)|fail) only [go_sem,simprocAttr]
  have hbd := spanD_bound b hb1 may' carry cord p b.base.toNat (Nat.le_refl _)
  obtain ⟨d, hd⟩ : ∃ d : Nat, sel (spanD b may' carry cord p b.base.toNat) = d := ⟨(sel (spanD b may' carry cord p b.base.toNat)).toNat, by
   rcases hsel2 (spanD b may' carry cord p b.base.toNat) with e | e <;> omega⟩
  rw [hd]
  refine wcall (c39 b.base [n, d] (by simp)) ?_
  simp -failIfUnchanged (disch := first|omega|(simp [wcs_len]<;>omega)|fail) only [go_sem,simprocAttr]
  refine wcall (c40 b g' g2 caps' caps2 cord p d) ?_
  simp -failIfUnchanged (disch := first|omega|(simp [wcs_len]<;>omega)|fail) only [go_sem,simprocAttr]
  refine ⟨(p + 1, 68, capsO g' caps' cord p d, onlyF may' cord p d, numL b.base [n, d]), ⟨by dsimp only; omega, fun c q d' h1 h2 h3 => c68 g' caps' may' cord p d c q d' (hm c q d' h1 h2 h3), ?_⟩, by dsimp only; omega, ?_⟩
  ·dsimp only
   rw [← he, show PL - p = (PL - (p + 1)) + 1 by omega]
   simp only [endF, hd, Int.toNat_natCast]
  ·simp -failIfUnchanged (disch := first|omega|(simp [wcs_len]<;>omega)|fail) only [go_sem,simprocAttr]
   simp
 ·simp -failIfUnchanged (disch := first|omega|(simp [wcs_len]<;>omega)|fail) only [go_sem,simprocAttr]
  have e : p = PL := by omega
  rw [hPn, ← he, e, Nat.sub_self]
  rfl
def sureD (b : Bk) (cord : Nat) : Sp := ⟨endF b yes2 cord (fun s => s.lo) 0 b.places.toNat yes3 0, endF b yes2 cord (fun s => s.hi) 0 b.places.toNat yes3 0⟩
theorem c14 (b : Bk) (hs : Small b) (c : Int) : Ctr Tryz.prog 14 [KB b, .int c]
  (ansR b (within c 0 b.cords.length) (SP ⟨0, 0⟩) (SP (sureD b c.toNat))) := by
 refine ctr_of_wp hmix Tryz.func14 m14 rfl ?_
 unfold v14 ansR
 simp -failIfUnchanged (disch := first|omega|(simp [wcs_len]<;>omega)|fail) only [go_sem,simprocAttr]
 refine wcall (c25 b c) ?_
 simp -failIfUnchanged (disch := first|omega|(simp [wcs_len]<;>omega)|fail) only [go_sem,simprocAttr]
 refine wcall (c36g b hs _) ?_
 unfold knownR
 cases hc : checkB b with
 | false => simp -failIfUnchanged (disch := first|omega|(simp [wcs_len]<;>omega)|fail) only [go_sem,simprocAttr]
 | true =>
  cases h1 : within c 0 b.cords.length with
  | false => simp -failIfUnchanged (disch := first|omega|(simp [wcs_len]<;>omega)|fail) only [go_sem,simprocAttr]
  | true =>
   have hv := val_of_check hc
   have h1' : 0 ≤ c ∧ c ≤ b.cords.length := by simpa [within] using h1
   by_cases hz : (solveL b yes3 yes2).r = 0
   ·simp -failIfUnchanged (disch := first|omega|(simp [wcs_len]<;>omega)|fail) only [go_sem,simprocAttr, hz]
   ·simp -failIfUnchanged (disch := first|omega|(simp [wcs_len]<;>omega)|fail) only [go_sem,simprocAttr, hz]
    obtain ⟨cn, rfl⟩ : ∃ m : Nat, c = m := ⟨c.toNat, by omega⟩
    refine wcall (c37 b hv 80 81 [] [] yes3 yes2 (fun c p d _ _ _ => c80 c p d) (fun p n _ _ => c81 p n) cn 41 (fun s => s.lo) c41 (fun s => .inl rfl)) ?_
    simp -failIfUnchanged (disch := first|omega|(simp [wcs_len]<;>omega)|fail) only [go_sem,simprocAttr]
    refine wcall (c37 b hv 80 81 [] [] yes3 yes2 (fun c p d _ _ _ => c80 c p d) (fun p n _ _ => c81 p n) cn 42 (fun s => s.hi) c42 (fun s => .inr rfl)) ?_
    simp -failIfUnchanged (disch := first|omega|(simp [wcs_len]<;>omega)|fail) only [go_sem,simprocAttr]
    simp [sureD]
end Go.Proofs.YtggnmemkhookdaaGreatDoor.Kn

set_option linter.unusedSimpArgs false
set_option linter.unusedVariables false
set_option linter.unnecessarySimpa false
namespace Go.Proofs.YtggnmemkhookdaaGreatDoor.Kn
open Go Go.V
end Go.Proofs.YtggnmemkhookdaaGreatDoor.Kn

set_option linter.unusedSimpArgs false
set_option linter.unusedVariables false
set_option linter.unnecessarySimpa false
namespace Go.Proofs.YtggnmemkhookdaaGreatDoor.Kn
open Go Go.V
structure As3 where
 c : Int
 p : Int
 w : Int
end Go.Proofs.YtggnmemkhookdaaGreatDoor.Kn
