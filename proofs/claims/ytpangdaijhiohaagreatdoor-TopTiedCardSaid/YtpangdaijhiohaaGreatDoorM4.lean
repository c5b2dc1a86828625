/- Merged by program: CodeA, Code, CodeG, CodeS, T201, T202, T203, T204, T205, T206, T207, T208, T209, T210, T211, T212, T213, T214, T215, T216, T217, T218, T219, T220, T221, T222, T223, T224, T301, T302. -/
import Derived.Test.YtpangdaijhiohaaGreatDoorM3
import Derived.Test.YtpangdaijhiohaaGreatDoorProg
import Derived.ProofKit
import Derived.Test.YtpangdaijhiohaaGreatDoorChecked
namespace Go.Proofs.YtpangdaijhiohaaGreatDoor
open Go Go.V
set_option maxRecDepth 100000
def v8 : VC :=
 (.seq (.ops false [⟨some 6,.mov (.k (.bool false)),none⟩] (some [0,1,2])) (.seq (.ops false [⟨some 7,.mov (.t 1),none⟩,⟨some 8,.mov (.t 0),none⟩,
 ⟨some 9,.bin .leq (.t 7) (.t 8),none⟩,⟨some 10,.mov (.t 9),none⟩,⟨some 11,.mov (.t 0),some (10,true)⟩,⟨some 12,.mov (.t 2),some (10,true)⟩,
 ⟨some 13,.bin .leq (.t 11) (.t 12),some (10,true)⟩,⟨some 14,.pick (.t 10) (.t 13) (.k (.bool false)),none⟩,⟨some 6,.mov (.t 14),none⟩] (some [6])) .ret))
theorem m8 : fmatch Tryz.prog Tryz.f8 3 [.tmp 6] v8 = true := by kernel_rfl
def v16 : VC :=
 (.seq (.ops false [⟨some 2,.box 2 4 (.t 0),none⟩,⟨some 3,.box 3 1 (.t 1),none⟩,⟨some 4,.alloc 4 [.int 0,.int 0],none⟩,
 ⟨some 5,.mov (.k (.int 0)),none⟩] (some [2,3,4])) (.seq (.ops true [⟨some 10,.load 4 true (.t 2) [6],none⟩,⟨some 11,.load 4 true (.t 2) [6],none⟩,
 ⟨some 12,.load 1 false (.t 3) [6],none⟩,⟨some 13,.call 49 [.t 11,.t 12],none⟩,⟨some 14,.call 60 [.t 10,.t 13],none⟩,⟨some 9,.mov (.t 14),none⟩,
 ⟨some 15,.ext (.t 9) 0,none⟩,⟨some 16,.ext (.t 9) 1,none⟩,⟨some 6,.alloc 6 [.int 0,.int 0,.sl 1 [] .full,.sl 2 [] .full,.und,.und],none⟩,
 ⟨none,.store 6 (.t 6) (.t 15) (some 6),none⟩,⟨some 7,.mov (.t 16),none⟩] (some [2,3,4,6,7])) (.seq (.seq (.ops false [⟨some 17,.mov (.t 7),none⟩,
 ⟨some 18,.bin .neq (.t 17) (.k (.int 0)),none⟩] (some [2,3,4,6,7,18])) (.cond (.t 18) (.seq (.ops false [⟨some 19,.build [.int 0,.int 0] [],none⟩,
 ⟨some 20,.mov (.t 7),none⟩,⟨none,.store 2 (.t 4) (.t 19) (some 4),none⟩,
 ⟨some 5,.mov (.t 20),none⟩] (some [4,5])) .ret) .skip)) (.seq (.ops false [⟨some 21,.mkf 61 [.t 6,.t 2,.t 3],none⟩,
 ⟨some 8,.mov (.t 21),none⟩] (some [4,8])) (.seq (.ops false [⟨some 22,.mov (.t 8),none⟩,⟨some 23,.callv (.t 22) [.k (.clo 65 [] [])],none⟩,
 ⟨some 24,.mov (.t 8),none⟩,⟨some 25,.callv (.t 24) [.k (.clo 66 [] [])],none⟩,⟨some 26,.build [.int 0,.int 0] [(0,1,.t 23),(1,1,.t 25)],none⟩,
 ⟨none,.store 2 (.t 4) (.t 26) (some 4),none⟩,⟨some 5,.mov (.k (.int 0)),none⟩] (some [4,5])) .ret)))))
theorem m16 : fmatch Tryz.prog Tryz.f16 2 [.cell 4 35, .tmp 5] v16 = true := by kernel_rfl
def v21 : VC :=
 (.seq (.ops false [⟨some 0,.mov (.k (.bool false)),none⟩] (some [])) (.seq (.ops false [⟨some 15,.call 69 [],none⟩,⟨some 14,.mov (.t 15),none⟩,
 ⟨some 16,.ext (.t 14) 0,none⟩,⟨some 17,.ext (.t 14) 1,none⟩,⟨some 18,.ext (.t 14) 2,none⟩,⟨some 1,.alloc 1 [.sl 1 [] .full,.sl 1 [] .full,.sl 2 [] .full],none⟩,
 ⟨some 2,.alloc 2 [.sl 1 [] .full,.sl 1 [] .full,.sl 2 [] .full],none⟩,⟨some 3,.alloc 3 [.sl 1 [] .full,.sl 1 [] .full,.sl 2 [] .full],none⟩,
 ⟨none,.store 3 (.t 1) (.t 16) (some 1),none⟩,⟨none,.store 3 (.t 2) (.t 17) (some 2),none⟩,
 ⟨none,.store 3 (.t 3) (.t 18) (some 3),none⟩] (some [1])) (.seq (.ops false [⟨some 20,.call 70 [],none⟩,⟨some 19,.mov (.t 20),none⟩,
 ⟨some 21,.ext (.t 19) 0,none⟩,⟨some 22,.ext (.t 19) 1,none⟩,⟨some 4,.alloc 4 [.sl 1 [] .full,.sl 1 [] .full],none⟩,
 ⟨some 5,.alloc 5 [.sl 1 [] .full,.sl 1 [] .full],none⟩,⟨none,.store 2 (.t 4) (.t 21) (some 4),none⟩,
 ⟨none,.store 2 (.t 5) (.t 22) (some 5),none⟩] (some [1,4])) (.seq (.ops false [⟨some 24,.call 44 [],none⟩,⟨some 23,.mov (.t 24),none⟩,
 ⟨some 25,.ext (.t 23) 0,none⟩,⟨some 26,.ext (.t 23) 1,none⟩,⟨some 6,.alloc 6 [.int 0,.int 0,.sl 1 [] .full,.sl 2 [] .full],none⟩,
 ⟨some 7,.alloc 7 [.int 0,.int 0,.sl 1 [] .full,.sl 2 [] .full],none⟩,⟨none,.store 4 (.t 6) (.t 25) (some 6),none⟩,
 ⟨none,.store 4 (.t 7) (.t 26) (some 7),none⟩] (some [1,4,6])) (.seq (.ops false [⟨some 28,.load 3 true (.t 1) [],none⟩,⟨some 29,.call 24 [.t 28],none⟩,
 ⟨some 27,.mov (.t 29),none⟩,⟨some 30,.ext (.t 27) 0,none⟩,⟨some 31,.ext (.t 27) 1,none⟩,⟨some 8,.mov (.t 30),none⟩,
 ⟨some 9,.mov (.t 31),none⟩] (some [4,6,8,9])) (.seq (.ops false [⟨some 33,.load 2 true (.t 4) [],none⟩,⟨some 34,.call 31 [.t 33,.k (.int 4)],none⟩,
 ⟨some 32,.mov (.t 34),none⟩,⟨some 35,.ext (.t 32) 0,none⟩,⟨some 36,.ext (.t 32) 1,none⟩,⟨some 10,.mov (.t 35),none⟩,
 ⟨some 11,.mov (.t 36),none⟩] (some [6,8,9,10,11])) (.seq (.ops false [⟨some 38,.load 4 true (.t 6) [],none⟩,⟨some 39,.call 16 [.t 38,.k (.int 0)],none⟩,
 ⟨some 37,.mov (.t 39),none⟩,⟨some 40,.ext (.t 37) 0,none⟩,⟨some 41,.ext (.t 37) 1,none⟩,⟨some 12,.alloc 12 [.int 0,.int 0],none⟩,
 ⟨none,.store 2 (.t 12) (.t 40) (some 12),none⟩,⟨some 13,.mov (.t 41),none⟩] (some [8,9,10,11,12,13])) (.seq (.ops false [⟨some 42,.mov (.t 9),none⟩,
 ⟨some 43,.bin .eql (.t 42) (.k (.int 0)),none⟩,⟨some 44,.mov (.t 43),none⟩,⟨some 45,.mov (.t 11),some (44,true)⟩,
 ⟨some 46,.bin .eql (.t 45) (.k (.int 0)),some (44,true)⟩,⟨some 47,.pick (.t 44) (.t 46) (.k (.bool false)),none⟩,⟨some 48,.mov (.t 47),none⟩,
 ⟨some 49,.mov (.t 13),some (48,true)⟩,⟨some 50,.bin .eql (.t 49) (.k (.int 0)),some (48,true)⟩,⟨some 51,.pick (.t 48) (.t 50) (.k (.bool false)),none⟩,
 ⟨some 52,.mov (.t 51),none⟩,⟨some 53,.mov (.t 8),some (52,true)⟩,⟨some 54,.bslice 1 [.k (.int 2),.k (.int 2),.k (.int 1)],some (52,true)⟩,
 ⟨some 55,.call 47 [.t 53,.t 54],some (52,true)⟩,⟨some 56,.pick (.t 52) (.t 55) (.k (.bool false)),none⟩,⟨some 57,.mov (.t 56),none⟩,
 ⟨some 58,.mov (.t 10),some (57,true)⟩,⟨some 59,.bslice 1 [.k (.int 3),.k (.int 1),.k (.int 0)],some (57,true)⟩,⟨some 60,.call 47 [.t 58,.t 59],some (57,true)⟩,
 ⟨some 61,.pick (.t 57) (.t 60) (.k (.bool false)),none⟩,⟨some 62,.mov (.t 61),none⟩,⟨some 63,.load 2 true (.t 12) [],some (62,true)⟩,
 ⟨some 64,.build [.int 0,.int 0] [(0,1,.k (.int 12)),(1,1,.k (.int 13))],some (62,true)⟩,⟨some 65,.bin (.seq 2) (.t 63) (.t 64),some (62,true)⟩,
 ⟨some 66,.pick (.t 62) (.t 65) (.k (.bool false)),none⟩,⟨some 0,.mov (.t 66),none⟩] (some [0])) .ret))))))))
theorem m21 : fmatch Tryz.prog Tryz.f21 0 [.tmp 0] v21 = true := by kernel_rfl
def v22 : VC :=
 (.seq (.ops false [⟨some 1,.box 1 4 (.t 0),none⟩,⟨some 2,.mov (.k (.int 0)),none⟩,
 ⟨some 3,.mov (.k (.int 0)),none⟩] (some [1])) (.seq (.seq (.ops false [⟨some 5,.load 4 true (.t 1) [],none⟩,⟨some 6,.call 71 [.t 5],none⟩,
 ⟨some 4,.mov (.t 6),none⟩] (some [1,4])) (.seq (.ops false [⟨some 7,.mov (.t 4),none⟩,
 ⟨some 8,.bin .neq (.t 7) (.k (.int 0)),none⟩] (some [1,4,8])) (.cond (.t 8) (.seq (.ops false [⟨some 9,.mov (.t 4),none⟩,⟨some 2,.mov (.k (.int 0)),none⟩,
 ⟨some 3,.mov (.t 9),none⟩] (some [2,3])) .ret) .skip))) (.seq (.ops false [⟨some 10,.load 4 true (.t 1) [],none⟩,⟨some 11,.call 72 [.t 10],none⟩,
 ⟨some 12,.call 73 [.t 11],none⟩,⟨some 2,.mov (.t 12),none⟩,⟨some 3,.mov (.k (.int 0)),none⟩] (some [2,3])) .ret)))
theorem m22 : fmatch Tryz.prog Tryz.f22 1 [.tmp 2, .tmp 3] v22 = true := by kernel_rfl
def v24 : VC :=
 (.seq (.ops false [⟨some 1,.box 1 3 (.t 0),none⟩,⟨some 2,.nils 2 1,none⟩,
 ⟨some 3,.mov (.k (.int 0)),none⟩] (some [1])) (.seq (.seq (.ops false [⟨some 5,.load 3 true (.t 1) [],none⟩,⟨some 6,.call 75 [.t 5],none⟩,
 ⟨some 4,.mov (.t 6),none⟩] (some [1,4])) (.seq (.ops false [⟨some 7,.mov (.t 4),none⟩,
 ⟨some 8,.bin .neq (.t 7) (.k (.int 0)),none⟩] (some [1,4,8])) (.cond (.t 8) (.seq (.ops false [⟨some 9,.mov (.t 4),none⟩,⟨some 2,.nils 501 1,none⟩,
 ⟨some 3,.mov (.t 9),none⟩] (some [2,3])) .ret) .skip))) (.seq (.ops false [⟨some 10,.load 3 true (.t 1) [],none⟩,⟨some 11,.call 76 [.t 10],none⟩,
 ⟨some 2,.mov (.t 11),none⟩,⟨some 3,.mov (.k (.int 0)),none⟩] (some [2,3])) .ret)))
theorem m24 : fmatch Tryz.prog Tryz.f24 1 [.tmp 2, .tmp 3] v24 = true := by kernel_rfl
def v28 : VC :=
 (.seq (.ops false [⟨some 1,.box 1 2 (.t 0),none⟩,⟨some 2,.mov (.k (.bool false)),none⟩] (some [1])) (.seq (.ops false [⟨some 3,.fld 0 (.t 1),none⟩,
 ⟨some 4,.load 1 false (.t 3) [],none⟩,⟨some 5,.len (.t 4),none⟩,⟨some 6,.bin .gtr (.t 5) (.k (.int 40)),none⟩,⟨some 7,.mov (.t 6),none⟩,
 ⟨some 8,.fld 1 (.t 1),some (7,false)⟩,⟨some 9,.load 1 false (.t 8) [],some (7,false)⟩,⟨some 10,.len (.t 9),some (7,false)⟩,
 ⟨some 11,.bin .gtr (.t 10) (.k (.int 40)),some (7,false)⟩,⟨some 12,.pick (.t 7) (.k (.bool true)) (.t 11),none⟩,⟨some 2,.mov (.t 12),none⟩] (some [2])) .ret))
theorem m28 : fmatch Tryz.prog Tryz.f28 1 [.tmp 2] v28 = true := by kernel_rfl
def v29 : VC :=
 (.seq (.ops false [⟨some 1,.box 1 2 (.t 0),none⟩,⟨some 2,.mov (.k (.int 0)),none⟩] (some [1])) (.seq (.seq (.ops false [⟨some 4,.fld 0 (.t 1),none⟩,
 ⟨some 5,.load 1 false (.t 4) [],none⟩,⟨some 6,.len (.t 5),none⟩,⟨some 7,.bin .gtr (.t 6) (.k (.int 5)),none⟩,⟨some 8,.mov (.t 7),none⟩,
 ⟨some 9,.fld 1 (.t 1),some (8,false)⟩,⟨some 10,.load 1 false (.t 9) [],some (8,false)⟩,⟨some 11,.len (.t 10),some (8,false)⟩,
 ⟨some 12,.fld 0 (.t 1),some (8,false)⟩,⟨some 13,.load 1 false (.t 12) [],some (8,false)⟩,⟨some 14,.len (.t 13),some (8,false)⟩,
 ⟨some 15,.bin .neq (.t 11) (.t 14),some (8,false)⟩,
 ⟨some 16,.pick (.t 8) (.k (.bool true)) (.t 15),none⟩] (some [1,16])) (.cond (.t 16) (.seq (.ops false [⟨some 2,.mov (.k (.int 70)),none⟩] (some [2])) .ret) .skip)) (.seq (.seq (.ops false [⟨some 3,.mov (.k (.int 0)),none⟩] (some [1,3])) (.block 0 (.loop (.seq (.seq (.ops false [⟨some 17,.mov (.t 3),none⟩,
 ⟨some 18,.fld 0 (.t 1),none⟩,⟨some 19,.load 1 false (.t 18) [],none⟩,⟨some 20,.len (.t 19),none⟩,
 ⟨some 21,.bin .lss (.t 17) (.t 20),none⟩] (some [1,3,21])) (.cond (.t 21) .skip (.exit 0))) (.seq (.block 1 (.seq (.ops false [⟨some 24,.fld 0 (.t 1),none⟩,
 ⟨some 25,.load 1 false (.t 24) [],none⟩,⟨some 26,.mov (.t 3),none⟩,⟨some 27,.idx 1 (.t 25) (.t 26),none⟩,⟨some 28,.load 1 false (.t 27) [],none⟩,
 ⟨some 29,.call 78 [.t 28,.k (.int 0),.k (.int 20)],none⟩,⟨some 30,.not (.t 29),none⟩,⟨some 31,.mov (.t 30),none⟩,⟨some 32,.fld 1 (.t 1),some (31,false)⟩,
 ⟨some 33,.load 1 false (.t 32) [],some (31,false)⟩,⟨some 34,.mov (.t 3),some (31,false)⟩,⟨some 35,.idx 1 (.t 33) (.t 34),some (31,false)⟩,
 ⟨some 36,.load 1 false (.t 35) [],some (31,false)⟩,⟨some 37,.call 78 [.t 36,.k (.int 0),.k (.int 20)],some (31,false)⟩,⟨some 38,.not (.t 37),some (31,false)⟩,
 ⟨some 39,.pick (.t 31) (.k (.bool true)) (.t 38),none⟩] (some [1,3,39])) (.cond (.t 39) (.seq (.ops false [⟨some 2,.mov (.k (.int 70)),none⟩] (some [2])) .ret) .skip))) (.ops false [⟨some 22,.mov (.t 3),none⟩,
 ⟨some 23,.bin .add (.t 22) (.k (.int 1)),none⟩,
 ⟨some 3,.mov (.t 23),none⟩] (some [1,3]))))))) (.seq (.ops false [⟨some 2,.mov (.k (.int 0)),none⟩] (some [2])) .ret))))
theorem m29 : fmatch Tryz.prog Tryz.f29 1 [.tmp 2] v29 = true := by kernel_rfl
def v30 : VC :=
 (.seq (.ops false [⟨some 2,.mov (.k (.bool false)),none⟩] (some [0])) (.seq (.ops false [⟨some 3,.mov (.t 0),none⟩,
 ⟨some 4,.call 78 [.t 3,.k (.int 0),.k (.int 40)],none⟩,⟨some 2,.mov (.t 4),none⟩] (some [2])) .ret))
theorem m30 : fmatch Tryz.prog Tryz.f30 1 [.tmp 2] v30 = true := by kernel_rfl
def v31 : VC :=
 (.seq (.ops false [⟨some 2,.box 2 2 (.t 0),none⟩,⟨some 4,.nils 4 1,none⟩,
 ⟨some 5,.mov (.k (.int 0)),none⟩] (some [1,2])) (.seq (.seq (.ops true [⟨some 7,.load 2 true (.t 2) [],none⟩,⟨some 8,.mov (.t 1),none⟩,
 ⟨some 9,.call 80 [.t 8],none⟩,⟨some 10,.call 79 [.t 7,.t 9],none⟩,⟨some 6,.mov (.t 10),none⟩] (some [1,2,6])) (.seq (.ops false [⟨some 11,.mov (.t 6),none⟩,
 ⟨some 12,.bin .neq (.t 11) (.k (.int 0)),none⟩] (some [1,2,6,12])) (.cond (.t 12) (.seq (.ops false [⟨some 13,.mov (.t 6),none⟩,⟨some 4,.nils 501 1,none⟩,
 ⟨some 5,.mov (.t 13),none⟩] (some [4,5])) .ret) .skip))) (.seq (.ops false [⟨some 14,.load 2 true (.t 2) [],none⟩,⟨some 15,.mov (.t 1),none⟩,
 ⟨some 16,.call 81 [.t 14,.t 15],none⟩,⟨some 4,.mov (.t 16),none⟩,⟨some 5,.mov (.k (.int 0)),none⟩] (some [4,5])) .ret)))
theorem m31 : fmatch Tryz.prog Tryz.f31 2 [.tmp 4, .tmp 5] v31 = true := by kernel_rfl
def v32 : VC :=
 (.seq (.ops false [⟨some 2,.box 2 2 (.t 0),none⟩,⟨some 4,.mov (.k (.int 0)),none⟩,
 ⟨some 5,.mov (.k (.int 0)),none⟩] (some [1,2])) (.seq (.ops false [⟨some 9,.load 2 true (.t 2) [],none⟩,⟨some 10,.mov (.t 1),none⟩,
 ⟨some 11,.call 31 [.t 9,.t 10],none⟩,⟨some 8,.mov (.t 11),none⟩,⟨some 12,.ext (.t 8) 0,none⟩,⟨some 13,.ext (.t 8) 1,none⟩,⟨some 6,.mov (.t 12),none⟩,
 ⟨some 7,.mov (.t 13),none⟩] (some [1,6,7])) (.seq (.seq (.ops false [⟨some 14,.mov (.t 7),none⟩,
 ⟨some 15,.bin .neq (.t 14) (.k (.int 0)),none⟩] (some [1,6,7,15])) (.cond (.t 15) (.seq (.ops false [⟨some 16,.mov (.t 7),none⟩,
 ⟨some 4,.mov (.k (.int 0)),none⟩,⟨some 5,.mov (.t 16),none⟩] (some [4,5])) .ret) .skip)) (.seq (.ops false [⟨some 17,.mov (.t 1),none⟩,
 ⟨some 18,.mov (.t 6),none⟩,⟨some 19,.call 82 [.t 18],none⟩,⟨some 20,.bin .sub (.t 17) (.t 19),none⟩,⟨some 4,.mov (.t 20),none⟩,
 ⟨some 5,.mov (.k (.int 0)),none⟩] (some [4,5])) .ret))))
theorem m32 : fmatch Tryz.prog Tryz.f32 2 [.tmp 4, .tmp 5] v32 = true := by kernel_rfl
def v33 : VC :=
 (.seq (.ops false [⟨some 2,.box 2 4 (.t 0),none⟩,⟨some 3,.box 3 1 (.t 1),none⟩,⟨some 4,.nils 4 1,none⟩,
 ⟨some 5,.mov (.k (.int 0)),none⟩] (some [2,3])) (.seq (.ops false [⟨some 6,.mov (.k (.int 1)),none⟩] (some [2,3,6])) (.seq (.seq (.ops false [⟨some 10,.fld 1 (.t 2),none⟩,
 ⟨some 11,.load 1 false (.t 10) [],none⟩,⟨some 12,.max (.k (.int 0)) (.t 11),none⟩,⟨some 13,.min (.k (.int 4)) (.t 12),none⟩,
 ⟨some 14,.mov (.k (.int 0)),none⟩] (some [2,3,6,13,14])) (.block 0 (.loop (.seq (.ops false [⟨some 15,.bin .lss (.t 14) (.t 13),none⟩] (some [2,3,6,13,14,15])) (.seq (.cond (.t 15) .skip (.exit 0)) (.seq (.block 1 (.ops false [⟨some 16,.mov (.t 6),none⟩,
 ⟨some 17,.fld 0 (.t 2),none⟩,⟨some 18,.load 1 false (.t 17) [],none⟩,⟨some 19,.max (.k (.int 1)) (.t 18),none⟩,⟨some 20,.min (.k (.int 10)) (.t 19),none⟩,
 ⟨some 21,.bin .mul (.t 16) (.t 20),none⟩,⟨some 6,.mov (.t 21),none⟩] (some [2,3,6,13,14]))) (.ops false [⟨some 22,.bin .add (.t 14) (.k (.int 1)),none⟩,
 ⟨some 14,.mov (.t 22),none⟩] (some [2,3,6,13,14])))))))) (.seq (.seq (.ops true [⟨some 23,.load 4 true (.t 2) [],none⟩,⟨some 24,.load 1 false (.t 3) [],none⟩,
 ⟨some 25,.mov (.t 6),none⟩,⟨some 26,.bin .sub (.t 25) (.k (.int 1)),none⟩,⟨some 27,.call 83 [.t 24,.k (.int 0),.t 26],none⟩,
 ⟨some 28,.call 48 [.t 23,.t 27],none⟩,⟨some 7,.mov (.t 28),none⟩] (some [2,3,7])) (.seq (.ops false [⟨some 29,.mov (.t 7),none⟩,
 ⟨some 30,.bin .neq (.t 29) (.k (.int 0)),none⟩] (some [2,3,7,30])) (.cond (.t 30) (.seq (.ops false [⟨some 31,.mov (.t 7),none⟩,⟨some 4,.nils 501 1,none⟩,
 ⟨some 5,.mov (.t 31),none⟩] (some [4,5])) .ret) .skip))) (.seq (.ops false [⟨some 32,.fld 1 (.t 2),none⟩,⟨some 33,.load 1 false (.t 32) [],none⟩,
 ⟨some 34,.makes 34 1 8 false [.int 0] (.t 33),none⟩,⟨some 8,.alloc 8 [.sl 1 [] .full],none⟩,
 ⟨none,.store 1 (.t 8) (.t 34) (some 8),none⟩] (some [2,3,8])) (.seq (.seq (.ops false [⟨some 35,.load 1 false (.t 8) [],none⟩,
 ⟨some 36,.calli 84 [.t 35],none⟩] (some [2,3,8,36])) (.block 2 (.range (.t 36) [37,38] (.ops false [⟨some 9,.mov (.t 37),none⟩] (some [2,3,8,9])) (.block 3 (.ops true [⟨some 39,.load 1 false (.t 8) [3,34],none⟩,
 ⟨some 40,.mov (.t 9),none⟩,⟨some 41,.load 1 false (.t 3) [34],none⟩,⟨some 42,.fld 0 (.t 2),none⟩,⟨some 43,.load 1 false (.t 42) [3,34],none⟩,
 ⟨some 44,.bin .rem (.t 41) (.t 43),none⟩,⟨some 45,.load 1 false (.t 3) [34],none⟩,⟨some 46,.fld 0 (.t 2),none⟩,⟨some 47,.load 1 false (.t 46) [3,34],none⟩,
 ⟨some 48,.bin .quo (.t 45) (.t 47),none⟩,⟨some 49,.idx 1 (.t 39) (.t 40),none⟩,⟨none,.store 1 (.t 49) (.t 44) (some 34),none⟩,
 ⟨none,.store 1 (.t 3) (.t 48) (some 3),none⟩] (some [])))))) (.seq (.ops false [⟨some 50,.load 1 false (.t 8) [],none⟩,⟨some 4,.mov (.t 50),none⟩,
 ⟨some 5,.mov (.k (.int 0)),none⟩] (some [4,5])) .ret)))))))
theorem m33 : fmatch Tryz.prog Tryz.f33 2 [.tmp 4, .tmp 5] v33 = true := by kernel_rfl
def v34 : VC :=
 (.seq (.ops false [⟨some 2,.box 2 4 (.t 0),none⟩,⟨some 4,.mov (.k (.bool false)),none⟩] (some [1,2])) (.seq (.seq (.ops false [⟨some 6,.mov (.t 1),none⟩,
 ⟨some 7,.len (.t 6),none⟩,⟨some 8,.fld 1 (.t 2),none⟩,⟨some 9,.load 1 false (.t 8) [],none⟩,
 ⟨some 10,.bin .neq (.t 7) (.t 9),none⟩] (some [1,2,10])) (.cond (.t 10) (.seq (.ops false [⟨some 4,.mov (.k (.bool false)),none⟩] (some [4])) .ret) .skip)) (.seq (.seq (.ops false [⟨some 5,.mov (.k (.int 0)),none⟩] (some [1,2,5])) (.block 0 (.loop (.seq (.seq (.ops false [⟨some 11,.mov (.t 5),none⟩,
 ⟨some 12,.mov (.t 1),none⟩,⟨some 13,.len (.t 12),none⟩,
 ⟨some 14,.bin .lss (.t 11) (.t 13),none⟩] (some [1,2,5,14])) (.cond (.t 14) .skip (.exit 0))) (.seq (.block 1 (.seq (.ops true [⟨some 17,.mov (.t 1),none⟩,
 ⟨some 18,.mov (.t 5),none⟩,⟨some 19,.idx 1 (.t 17) (.t 18),none⟩,⟨some 20,.load 1 false (.t 19) [],none⟩,⟨some 21,.fld 0 (.t 2),none⟩,
 ⟨some 22,.load 1 false (.t 21) [],none⟩,⟨some 23,.bin .sub (.t 22) (.k (.int 1)),none⟩,⟨some 24,.call 41 [.t 20,.k (.int 0),.t 23],none⟩,
 ⟨some 25,.not (.t 24),none⟩] (some [1,2,5,25])) (.cond (.t 25) (.seq (.ops false [⟨some 4,.mov (.k (.bool false)),none⟩] (some [4])) .ret) .skip))) (.ops false [⟨some 15,.mov (.t 5),none⟩,
 ⟨some 16,.bin .add (.t 15) (.k (.int 1)),none⟩,
 ⟨some 5,.mov (.t 16),none⟩] (some [1,2,5]))))))) (.seq (.ops false [⟨some 4,.mov (.k (.bool true)),none⟩] (some [4])) .ret))))
theorem m34 : fmatch Tryz.prog Tryz.f34 2 [.tmp 4] v34 = true := by kernel_rfl
def v35 : VC :=
 (.seq (.ops false [⟨some 2,.box 2 4 (.t 0),none⟩,⟨some 4,.mov (.k (.bool false)),none⟩,
 ⟨some 5,.mov (.k (.int 0)),none⟩] (some [1,2])) (.seq (.seq (.ops false [⟨some 14,.load 4 true (.t 2) [],none⟩,⟨some 15,.call 71 [.t 14],none⟩,
 ⟨some 6,.mov (.t 15),none⟩] (some [1,2,6])) (.seq (.ops false [⟨some 16,.mov (.t 6),none⟩,
 ⟨some 17,.bin .neq (.t 16) (.k (.int 0)),none⟩] (some [1,2,6,17])) (.cond (.t 17) (.seq (.ops false [⟨some 18,.mov (.t 6),none⟩,
 ⟨some 4,.mov (.k (.bool false)),none⟩,⟨some 5,.mov (.t 18),none⟩] (some [4,5])) .ret) .skip))) (.seq (.ops false [⟨some 19,.load 4 true (.t 2) [],none⟩,
 ⟨some 20,.call 51 [.t 19],none⟩,⟨some 7,.mov (.t 20),none⟩] (some [1,2,7])) (.seq (.seq (.ops false [⟨some 21,.mov (.t 1),none⟩,⟨some 22,.len (.t 21),none⟩,
 ⟨some 23,.mov (.t 7),none⟩,⟨some 24,.len (.t 23),none⟩,
 ⟨some 25,.bin .neq (.t 22) (.t 24),none⟩] (some [1,2,7,25])) (.cond (.t 25) (.seq (.ops false [⟨some 4,.mov (.k (.bool false)),none⟩,
 ⟨some 5,.mov (.k (.int 0)),none⟩] (some [4,5])) .ret) .skip)) (.seq (.ops false [⟨some 8,.mov (.k (.int 0)),none⟩] (some [1,2,7,8])) (.seq (.seq (.ops false [⟨some 26,.mov (.t 1),none⟩,
 ⟨some 27,.len (.t 26),none⟩,
 ⟨some 28,.mov (.k (.int 0)),none⟩] (some [2,7,8,26,27,28])) (.block 0 (.loop (.seq (.ops false [⟨some 29,.bin .lss (.t 28) (.t 27),none⟩] (some [2,7,8,26,27,28,29])) (.seq (.cond (.t 29) .skip (.exit 0)) (.seq (.block 1 (.seq (.ops false [⟨some 30,.mov (.t 28),none⟩,
 ⟨some 31,.idx 1 (.t 26) (.t 28),none⟩,⟨some 32,.load 1 false (.t 31) [],none⟩,⟨some 9,.mov (.t 30),none⟩,
 ⟨some 10,.mov (.t 32),none⟩] (some [2,7,8,9,10,26,27,28])) (.seq (.seq (.ops false [⟨some 33,.mov (.t 10),none⟩,⟨some 34,.len (.t 33),none⟩,
 ⟨some 35,.fld 1 (.t 2),none⟩,⟨some 36,.load 1 false (.t 35) [],none⟩,
 ⟨some 37,.bin .neq (.t 34) (.t 36),none⟩] (some [2,7,8,9,10,26,27,28,37])) (.cond (.t 37) (.seq (.ops false [⟨some 4,.mov (.k (.bool false)),none⟩,
 ⟨some 5,.mov (.k (.int 0)),none⟩] (some [4,5])) .ret) .skip)) (.seq (.seq (.ops false [⟨some 38,.mov (.t 10),none⟩,⟨some 39,.len (.t 38),none⟩,
 ⟨some 40,.mov (.k (.int 0)),none⟩] (some [2,7,8,9,10,26,27,28,38,39,40])) (.block 2 (.loop (.seq (.ops false [⟨some 41,.bin .lss (.t 40) (.t 39),none⟩] (some [2,7,8,9,10,26,27,28,38,39,40,41])) (.seq (.cond (.t 41) .skip (.exit 2)) (.seq (.block 3 (.seq (.ops false [⟨some 42,.mov (.t 40),none⟩,
 ⟨some 43,.idx 1 (.t 38) (.t 40),none⟩,⟨some 44,.load 1 false (.t 43) [],none⟩,⟨some 11,.mov (.t 42),none⟩,
 ⟨some 12,.mov (.t 44),none⟩] (some [2,7,8,9,10,11,12,26,27,28,38,39,40])) (.seq (.ops true [⟨some 45,.mov (.t 12),none⟩,⟨some 46,.mov (.t 7),none⟩,
 ⟨some 47,.mov (.t 9),none⟩,⟨some 48,.idx 1 (.t 46) (.t 47),none⟩,⟨some 49,.load 1 false (.t 48) [],none⟩,⟨some 50,.mov (.t 11),none⟩,
 ⟨some 51,.idx 2 (.t 49) (.t 50),none⟩,⟨some 52,.fld 0 (.t 51),none⟩,⟨some 53,.load 1 false (.t 52) [],none⟩,⟨some 54,.mov (.t 7),none⟩,
 ⟨some 55,.mov (.t 9),none⟩,⟨some 56,.idx 1 (.t 54) (.t 55),none⟩,⟨some 57,.load 1 false (.t 56) [],none⟩,⟨some 58,.mov (.t 11),none⟩,
 ⟨some 59,.idx 2 (.t 57) (.t 58),none⟩,⟨some 60,.fld 1 (.t 59),none⟩,⟨some 61,.load 1 false (.t 60) [],none⟩,⟨some 62,.call 83 [.t 45,.t 53,.t 61],none⟩,
 ⟨some 63,.not (.t 62),none⟩] (some [2,7,8,9,10,26,27,28,38,39,40,63])) (.cond (.t 63) (.seq (.ops false [⟨some 4,.mov (.k (.bool false)),none⟩,
 ⟨some 5,.mov (.k (.int 0)),none⟩] (some [4,5])) .ret) .skip)))) (.ops false [⟨some 64,.bin .add (.t 40) (.k (.int 1)),none⟩,
 ⟨some 40,.mov (.t 64),none⟩] (some [2,7,8,9,10,26,27,28,38,39,40])))))))) (.seq (.ops false [⟨some 65,.fld 0 (.t 2),none⟩,
 ⟨some 66,.load 1 false (.t 65) [],none⟩,⟨some 67,.mov (.t 10),none⟩,⟨some 68,.call 63 [.t 66,.t 67],none⟩,
 ⟨some 13,.mov (.t 68),none⟩] (some [2,7,8,9,13,26,27,28])) (.seq (.ops false [⟨some 69,.mov (.t 9),none⟩,⟨some 70,.fld 2 (.t 2),none⟩,
 ⟨some 71,.load 1 false (.t 70) [],none⟩,⟨some 72,.len (.t 71),none⟩,
 ⟨some 73,.bin .lss (.t 69) (.t 72),none⟩] (some [2,7,8,13,26,27,28,73])) (.cond (.t 73) (.ops false [⟨some 74,.mov (.t 8),none⟩,⟨some 75,.mov (.t 13),none⟩,
 ⟨some 76,.bin .add (.t 74) (.t 75),none⟩,⟨some 8,.mov (.t 76),none⟩] (some [2,7,8,26,27,28])) (.ops false [⟨some 77,.mov (.t 8),none⟩,
 ⟨some 78,.mov (.t 13),none⟩,⟨some 79,.bin .sub (.t 77) (.t 78),none⟩,
 ⟨some 8,.mov (.t 79),none⟩] (some [2,7,8,26,27,28]))))))))) (.ops false [⟨some 80,.bin .add (.t 28) (.k (.int 1)),none⟩,
 ⟨some 28,.mov (.t 80),none⟩] (some [2,7,8,26,27,28])))))))) (.seq (.ops false [⟨some 81,.mov (.t 8),none⟩,⟨some 82,.bin .eql (.t 81) (.k (.int 0)),none⟩,
 ⟨some 4,.mov (.t 82),none⟩,⟨some 5,.mov (.k (.int 0)),none⟩] (some [4,5])) .ret)))))))
theorem m35 : fmatch Tryz.prog Tryz.f35 2 [.tmp 4, .tmp 5] v35 = true := by kernel_rfl
def v36 : VC :=
 (.seq (.ops false [⟨some 1,.box 1 4 (.t 0),none⟩,⟨some 2,.mov (.k (.int 0)),none⟩,
 ⟨some 3,.mov (.k (.int 0)),none⟩] (some [1])) (.seq (.seq (.ops false [⟨some 5,.load 4 true (.t 1) [],none⟩,⟨some 6,.call 71 [.t 5],none⟩,
 ⟨some 4,.mov (.t 6),none⟩] (some [1,4])) (.seq (.ops false [⟨some 7,.mov (.t 4),none⟩,
 ⟨some 8,.bin .neq (.t 7) (.k (.int 0)),none⟩] (some [1,4,8])) (.cond (.t 8) (.seq (.ops false [⟨some 9,.mov (.t 4),none⟩,⟨some 2,.mov (.k (.int 0)),none⟩,
 ⟨some 3,.mov (.t 9),none⟩] (some [2,3])) .ret) .skip))) (.seq (.ops false [⟨some 10,.load 4 true (.t 1) [],none⟩,⟨some 11,.call 72 [.t 10],none⟩,
 ⟨some 12,.call 85 [.t 11],none⟩,⟨some 13,.fieldV 0 1 false (.t 12),none⟩,⟨some 2,.mov (.t 13),none⟩,⟨some 3,.mov (.k (.int 0)),none⟩] (some [2,3])) .ret)))
theorem m36 : fmatch Tryz.prog Tryz.f36 1 [.tmp 2, .tmp 3] v36 = true := by kernel_rfl
def v37 : VC :=
 (.seq (.ops false [⟨some 2,.box 2 4 (.t 0),none⟩,⟨some 3,.box 3 1 (.t 1),none⟩,⟨some 4,.alloc 4 [.int 0,.int 0],none⟩,
 ⟨some 5,.mov (.k (.int 0)),none⟩] (some [2,3,4])) (.seq (.ops true [⟨some 11,.load 4 true (.t 2) [6],none⟩,⟨some 12,.load 4 true (.t 2) [6],none⟩,
 ⟨some 13,.load 1 false (.t 3) [6],none⟩,⟨some 14,.call 86 [.t 12,.t 13],none⟩,⟨some 15,.call 60 [.t 11,.t 14],none⟩,⟨some 10,.mov (.t 15),none⟩,
 ⟨some 16,.ext (.t 10) 0,none⟩,⟨some 17,.ext (.t 10) 1,none⟩,⟨some 6,.alloc 6 [.int 0,.int 0,.sl 1 [] .full,.sl 2 [] .full,.und,.und],none⟩,
 ⟨none,.store 6 (.t 6) (.t 16) (some 6),none⟩,⟨some 7,.mov (.t 17),none⟩] (some [3,4,6,7])) (.seq (.seq (.ops false [⟨some 18,.mov (.t 7),none⟩,
 ⟨some 19,.bin .neq (.t 18) (.k (.int 0)),none⟩] (some [3,4,6,7,19])) (.cond (.t 19) (.seq (.ops false [⟨some 20,.build [.int 0,.int 0] [],none⟩,
 ⟨some 21,.mov (.t 7),none⟩,⟨none,.store 2 (.t 4) (.t 20) (some 4),none⟩,
 ⟨some 5,.mov (.t 21),none⟩] (some [4,5])) .ret) .skip)) (.seq (.ops false [⟨some 22,.build [.int 0,.int 0] [(0,1,.k (.int 51))],none⟩,
 ⟨some 8,.alloc 8 [.int 0,.int 0],none⟩,
 ⟨none,.store 2 (.t 8) (.t 22) (some 8),none⟩] (some [3,4,6,8])) (.seq (.seq (.ops false [⟨some 23,.mov (.k (.int 0)),none⟩] (some [3,4,6,8,23])) (.block 0 (.loop (.seq (.ops false [⟨some 24,.bin .lss (.t 23) (.k (.int 51)),none⟩] (some [3,4,6,8,23,24])) (.seq (.cond (.t 24) .skip (.exit 0)) (.seq (.block 1 (.seq (.ops false [⟨some 25,.mov (.t 23),none⟩,
 ⟨some 9,.alloc 9 [.int 0],none⟩,⟨none,.store 1 (.t 9) (.t 25) (some 9),none⟩] (some [3,4,6,8,9,23])) (.seq (.ops false [⟨some 26,.mkf 87 [.t 3,.t 9],none⟩,
 ⟨some 27,.fld 5 (.t 6),none⟩,⟨none,.store 1 (.t 27) (.t 26) (some 6),none⟩] (some [3,4,6,8,9,23])) (.seq (.ops false [⟨some 28,.load 6 true (.t 6) [],none⟩,
 ⟨some 29,.call 73 [.t 28],none⟩,
 ⟨some 30,.bin .gtr (.t 29) (.k (.int 0)),none⟩] (some [3,4,6,8,9,23,30])) (.cond (.t 30) (.ops false [⟨some 31,.fld 0 (.t 8),none⟩,
 ⟨some 32,.load 1 false (.t 31) [],none⟩,⟨some 33,.load 1 false (.t 9) [],none⟩,⟨some 34,.min (.t 32) (.t 33),none⟩,⟨some 35,.load 1 false (.t 9) [],none⟩,
 ⟨some 36,.build [.int 0,.int 0] [(0,1,.t 34),(1,1,.t 35)],none⟩,
 ⟨none,.store 2 (.t 8) (.t 36) (some 8),none⟩] (some [3,4,6,8,23])) .skip))))) (.ops false [⟨some 37,.bin .add (.t 23) (.k (.int 1)),none⟩,
 ⟨some 23,.mov (.t 37),none⟩] (some [3,4,6,8,23])))))))) (.seq (.ops false [⟨some 38,.load 2 true (.t 8) [],none⟩,⟨none,.store 2 (.t 4) (.t 38) (some 4),none⟩,
 ⟨some 5,.mov (.k (.int 0)),none⟩] (some [4,5])) .ret))))))
theorem m37 : fmatch Tryz.prog Tryz.f37 2 [.cell 4 35, .tmp 5] v37 = true := by kernel_rfl
def v38 : VC :=
 (.seq (.ops false [⟨some 1,.box 1 4 (.t 0),none⟩,⟨some 2,.nils 2 1,none⟩,
 ⟨some 3,.mov (.k (.int 0)),none⟩] (some [1])) (.scope (.seq (.ops false [⟨some 14,.load 4 true (.t 1) [],none⟩,⟨some 15,.call 36 [.t 14],none⟩,
 ⟨some 13,.mov (.t 15),none⟩,⟨some 16,.ext (.t 13) 0,none⟩,⟨some 17,.ext (.t 13) 1,none⟩,⟨some 4,.mov (.t 16),none⟩,
 ⟨some 5,.mov (.t 17),none⟩] (some [1,4,5])) (.seq (.seq (.ops false [⟨some 18,.mov (.t 5),none⟩,
 ⟨some 19,.bin .neq (.t 18) (.k (.int 0)),none⟩] (some [1,4,5,19])) (.cond (.t 19) (.seq (.ops false [⟨some 20,.mov (.t 5),none⟩,⟨some 2,.nils 501 1,none⟩,
 ⟨some 3,.mov (.t 20),none⟩] (some [2,3])) .ret) .skip)) (.seq (.ops false [⟨some 6,.nils 6 1,none⟩] (some [1,4,6])) (.seq (.ops false [⟨some 21,.load 4 true (.t 1) [],none⟩,
 ⟨some 22,.call 72 [.t 21],none⟩,⟨some 7,.alloc 7 [.int 0,.int 0,.sl 1 [] .full,.sl 2 [] .full,.und,.und],none⟩,
 ⟨none,.store 6 (.t 7) (.t 22) (some 7),none⟩] (some [1,4,6,7])) (.seq .skip (.seq (.seq (.ops false [⟨some 23,.load 4 true (.t 1) [],none⟩,
 ⟨some 24,.call 51 [.t 23],none⟩,⟨some 25,.len (.t 24),none⟩,
 ⟨some 26,.mov (.k (.int 0)),none⟩] (some [1,4,6,7,24,25,26])) (.block 0 (.loop (.seq (.ops false [⟨some 27,.bin .lss (.t 26) (.t 25),none⟩] (some [1,4,6,7,24,25,26,27])) (.seq (.cond (.t 27) .skip (.exit 0)) (.seq (.block 1 (.seq (.ops false [⟨some 28,.mov (.t 26),none⟩,
 ⟨some 29,.idx 1 (.t 24) (.t 26),none⟩,⟨some 30,.load 1 false (.t 29) [],none⟩,⟨some 8,.mov (.t 28),none⟩,
 ⟨some 9,.mov (.t 30),none⟩] (some [1,4,6,7,8,9,24,25,26])) (.seq (.ops false [⟨some 31,.mov (.t 9),none⟩,⟨some 32,.len (.t 31),none⟩,
 ⟨some 33,.mov (.k (.int 0)),none⟩] (some [1,4,6,7,8,24,25,26,31,32,33])) (.block 2 (.loop (.seq (.ops false [⟨some 34,.bin .lss (.t 33) (.t 32),none⟩] (some [1,4,6,7,8,24,25,26,31,32,33,34])) (.seq (.cond (.t 34) .skip (.exit 2)) (.seq (.block 3 (.seq (.ops false [⟨some 35,.mov (.t 33),none⟩,
 ⟨some 36,.idx 2 (.t 31) (.t 33),none⟩,⟨some 37,.load 2 true (.t 36) [],none⟩,⟨some 11,.alloc 11 [.int 0,.int 0],none⟩,⟨some 10,.mov (.t 35),none⟩,
 ⟨none,.store 2 (.t 11) (.t 37) (some 11),none⟩] (some [1,4,6,7,8,10,11,24,25,26,31,32,33])) (.seq (.ops false [⟨some 38,.fld 0 (.t 1),none⟩,
 ⟨some 39,.load 1 false (.t 38) [],none⟩,
 ⟨some 40,.mov (.k (.int 0)),none⟩] (some [1,4,6,7,8,10,11,24,25,26,31,32,33,39,40])) (.block 4 (.loop (.seq (.ops false [⟨some 41,.bin .lss (.t 40) (.t 39),none⟩] (some [1,4,6,7,8,10,11,24,25,26,31,32,33,39,40,41])) (.seq (.cond (.t 41) .skip (.exit 4)) (.seq (.block 5 (.seq (.ops false [⟨some 42,.mov (.t 40),none⟩,
 ⟨some 12,.mov (.t 42),none⟩] (some [1,4,6,7,8,10,11,12,24,25,26,31,32,33,39,40])) (.seq (.ops false [⟨some 43,.load 2 true (.t 11) [],none⟩,
 ⟨some 44,.mov (.t 12),none⟩,⟨some 45,.call 88 [.t 43,.t 44],none⟩,⟨some 46,.bin .gtr (.t 45) (.k (.int 0)),none⟩,⟨some 47,.mov (.t 46),none⟩,
 ⟨some 48,.load 6 true (.t 7) [],some (47,true)⟩,⟨some 49,.mov (.t 8),some (47,true)⟩,⟨some 50,.mov (.t 10),some (47,true)⟩,
 ⟨some 51,.mov (.t 12),some (47,true)⟩,⟨some 52,.call 64 [.t 48,.t 49,.t 50,.t 51],some (47,true)⟩,⟨some 53,.call 85 [.t 52],some (47,true)⟩,
 ⟨some 54,.fieldV 0 1 false (.t 53),some (47,true)⟩,⟨some 55,.mov (.t 4),some (47,true)⟩,⟨some 56,.bin .eql (.t 54) (.t 55),some (47,true)⟩,
 ⟨some 57,.pick (.t 47) (.t 56) (.k (.bool false)),none⟩] (some [1,4,6,7,8,10,11,24,25,26,31,32,33,39,40,57])) (.cond (.t 57) (.seq (.ops false [⟨some 58,.mov (.t 6),none⟩,
 ⟨some 59,.mov (.t 8),none⟩,⟨some 60,.bslice 1 [.t 59],none⟩,⟨some 61,.app 61 1 8 (.t 58) (.t 60),none⟩,
 ⟨some 6,.mov (.t 61),none⟩] (some [1,4,6,7,24,25,26])) (.exit 1)) .skip)))) (.ops false [⟨some 62,.bin .add (.t 40) (.k (.int 1)),none⟩,
 ⟨some 40,.mov (.t 62),none⟩] (some [1,4,6,7,8,10,11,24,25,26,31,32,33,39,40])))))))))) (.ops false [⟨some 63,.bin .add (.t 33) (.k (.int 1)),none⟩,
 ⟨some 33,.mov (.t 63),none⟩] (some [1,4,6,7,8,24,25,26,31,32,33])))))))))) (.ops false [⟨some 64,.bin .add (.t 26) (.k (.int 1)),none⟩,
 ⟨some 26,.mov (.t 64),none⟩] (some [1,4,6,7,24,25,26])))))))) (.seq (.seq (.ops false [⟨some 65,.mov (.t 6),none⟩,⟨some 66,.len (.t 65),none⟩,
 ⟨some 67,.bin .eql (.t 66) (.k (.int 0)),none⟩] (some [6,67])) (.cond (.t 67) (.seq (.ops false [⟨some 2,.nils 503 1,none⟩,
 ⟨some 3,.mov (.k (.int 3)),none⟩] (some [2,3])) .ret) .skip)) (.seq (.ops false [⟨some 68,.mov (.t 6),none⟩,⟨some 2,.mov (.t 68),none⟩,
 ⟨some 3,.mov (.k (.int 0)),none⟩] (some [2,3])) .ret))))))))))
theorem m38 : fmatch Tryz.prog Tryz.f38 1 [.tmp 2, .tmp 3] v38 = true := by kernel_rfl
def v39 : VC :=
 (.seq (.ops false [⟨some 4,.mov (.k (.bool false)),none⟩] (some [0,1])) (.seq (.seq (.ops false [⟨some 5,.mov (.k (.int 0)),none⟩] (some [0,1,5])) (.block 0 (.loop (.seq (.seq (.ops false [⟨some 6,.mov (.t 5),none⟩,
 ⟨some 7,.mov (.t 0),none⟩,⟨some 8,.len (.t 7),none⟩,
 ⟨some 9,.bin .lss (.t 6) (.t 8),none⟩] (some [0,1,5,9])) (.cond (.t 9) .skip (.exit 0))) (.seq (.block 1 (.seq (.ops false [⟨some 12,.mov (.t 0),none⟩,
 ⟨some 13,.mov (.t 5),none⟩,⟨some 14,.idx 1 (.t 12) (.t 13),none⟩,⟨some 15,.load 1 false (.t 14) [],none⟩,⟨some 16,.mov (.t 1),none⟩,
 ⟨some 17,.bin .eql (.t 15) (.t 16),none⟩] (some [0,1,5,17])) (.cond (.t 17) (.seq (.ops false [⟨some 4,.mov (.k (.bool true)),none⟩] (some [4])) .ret) .skip))) (.ops false [⟨some 10,.mov (.t 5),none⟩,
 ⟨some 11,.bin .add (.t 10) (.k (.int 1)),none⟩,
 ⟨some 5,.mov (.t 11),none⟩] (some [0,1,5]))))))) (.seq (.ops false [⟨some 4,.mov (.k (.bool false)),none⟩] (some [4])) .ret)))
theorem m39 : fmatch Tryz.prog Tryz.f39 2 [.tmp 4] v39 = true := by kernel_rfl
def v41 : VC :=
 (.seq (.ops false [⟨some 6,.mov (.k (.bool false)),none⟩] (some [0,1,2])) (.seq (.ops false [⟨some 7,.mov (.t 0),none⟩,⟨some 8,.mov (.t 1),none⟩,
 ⟨some 9,.mov (.t 2),none⟩,⟨some 10,.call 8 [.t 7,.t 8,.t 9],none⟩,⟨some 6,.mov (.t 10),none⟩] (some [6])) .ret))
theorem m41 : fmatch Tryz.prog Tryz.f41 3 [.tmp 6] v41 = true := by kernel_rfl
def v44 : VC :=
 (.seq (.ops false [⟨some 0,.alloc 0 [.int 0,.int 0,.sl 1 [] .full,.sl 2 [] .full],none⟩,
 ⟨some 1,.alloc 1 [.int 0,.int 0,.sl 1 [] .full,.sl 2 [] .full],none⟩] (some [0,1])) (.seq (.ops false [⟨some 2,.build [.int 0,.int 0] [(0,1,.k (.int 1)),(1,1,.k (.int 1))],none⟩,
 ⟨some 3,.build [.int 0,.int 0] [(0,1,.k (.int 2)),(1,1,.k (.int 3))],none⟩,⟨some 4,.bslice 2 [.t 2,.t 3],none⟩,
 ⟨some 5,.build [.int 0,.int 0] [(1,1,.k (.int 1))],none⟩,⟨some 6,.build [.int 0,.int 0] [(0,1,.k (.int 5)),(1,1,.k (.int 5))],none⟩,
 ⟨some 7,.bslice 2 [.t 5,.t 6],none⟩,⟨some 8,.bslice 1 [.t 4,.t 7],none⟩,⟨some 9,.build [.int 0,.int 0] [(0,1,.k (.int 2)),(1,1,.k (.int 2))],none⟩,
 ⟨some 10,.build [.int 0,.int 0] [(0,1,.k (.int 7)),(1,1,.k (.int 8))],none⟩,⟨some 11,.bslice 2 [.t 9,.t 10],none⟩,
 ⟨some 12,.build [.int 0,.int 0,.sl 1 [] .sh,.sl 2 [] .sh] [(0,1,.k (.int 10)),(1,1,.k (.int 2)),(2,1,.t 8),(3,1,.t 11)],none⟩,
 ⟨none,.store 4 (.t 0) (.t 12) (some 0),none⟩] (some [0,1])) (.seq (.ops false [⟨some 13,.build [.int 0,.int 0] [(0,1,.k (.int 3)),(1,1,.k (.int 3))],none⟩,
 ⟨some 14,.bslice 2 [.t 13],none⟩,⟨some 15,.build [.int 0,.int 0] [(0,1,.k (.int 4)),(1,1,.k (.int 4))],none⟩,⟨some 16,.bslice 2 [.t 15],none⟩,
 ⟨some 17,.bslice 1 [.t 14,.t 16],none⟩,⟨some 18,.build [.int 0,.int 0] [(0,1,.k (.int 9)),(1,1,.k (.int 9))],none⟩,⟨some 19,.bslice 2 [.t 18],none⟩,
 ⟨some 20,.build [.int 0,.int 0,.sl 1 [] .sh,.sl 2 [] .sh] [(0,1,.k (.int 10)),(1,1,.k (.int 1)),(2,1,.t 17),(3,1,.t 19)],none⟩,
 ⟨none,.store 4 (.t 1) (.t 20) (some 1),none⟩] (some [0,1])) (.seq (.ops true [⟨some 21,.load 4 true (.t 0) [1],none⟩,⟨some 22,.load 4 true (.t 1) [0],none⟩,
 ⟨none,.store 4 (.t 0) (.t 21) (some 0),none⟩,⟨none,.store 4 (.t 1) (.t 22) (some 1),none⟩] (some [0,1])) .ret))))
theorem m44 : fmatch Tryz.prog Tryz.f44 0 [.cell 0 25, .cell 1 25] v44 = true := by kernel_rfl
def v47 : VC :=
 (.seq (.ops false [⟨some 4,.mov (.k (.bool false)),none⟩] (some [0,1])) (.seq (.seq (.ops false [⟨some 6,.mov (.t 0),none⟩,⟨some 7,.len (.t 6),none⟩,
 ⟨some 8,.mov (.t 1),none⟩,⟨some 9,.len (.t 8),none⟩,
 ⟨some 10,.bin .neq (.t 7) (.t 9),none⟩] (some [0,1,10])) (.cond (.t 10) (.seq (.ops false [⟨some 4,.mov (.k (.bool false)),none⟩] (some [4])) .ret) .skip)) (.seq (.seq (.ops false [⟨some 5,.mov (.k (.int 0)),none⟩] (some [0,1,5])) (.block 0 (.loop (.seq (.seq (.ops false [⟨some 11,.mov (.t 5),none⟩,
 ⟨some 12,.mov (.t 0),none⟩,⟨some 13,.len (.t 12),none⟩,
 ⟨some 14,.bin .lss (.t 11) (.t 13),none⟩] (some [0,1,5,14])) (.cond (.t 14) .skip (.exit 0))) (.seq (.block 1 (.seq (.ops true [⟨some 17,.mov (.t 0),none⟩,
 ⟨some 18,.mov (.t 5),none⟩,⟨some 19,.idx 1 (.t 17) (.t 18),none⟩,⟨some 20,.load 1 false (.t 19) [],none⟩,⟨some 21,.mov (.t 1),none⟩,⟨some 22,.mov (.t 5),none⟩,
 ⟨some 23,.idx 1 (.t 21) (.t 22),none⟩,⟨some 24,.load 1 false (.t 23) [],none⟩,
 ⟨some 25,.bin .neq (.t 20) (.t 24),none⟩] (some [0,1,5,25])) (.cond (.t 25) (.seq (.ops false [⟨some 4,.mov (.k (.bool false)),none⟩] (some [4])) .ret) .skip))) (.ops false [⟨some 15,.mov (.t 5),none⟩,
 ⟨some 16,.bin .add (.t 15) (.k (.int 1)),none⟩,
 ⟨some 5,.mov (.t 16),none⟩] (some [0,1,5]))))))) (.seq (.ops false [⟨some 4,.mov (.k (.bool true)),none⟩] (some [4])) .ret))))
theorem m47 : fmatch Tryz.prog Tryz.f47 2 [.tmp 4] v47 = true := by kernel_rfl
def v48 : VC :=
 (.seq (.ops false [⟨some 2,.box 2 4 (.t 0),none⟩,⟨some 4,.mov (.k (.int 0)),none⟩] (some [1,2])) (.seq (.seq (.ops false [⟨some 6,.load 4 true (.t 2) [],none⟩,
 ⟨some 7,.call 71 [.t 6],none⟩,⟨some 5,.mov (.t 7),none⟩] (some [1,5])) (.seq (.ops false [⟨some 8,.mov (.t 5),none⟩,
 ⟨some 9,.bin .neq (.t 8) (.k (.int 0)),none⟩] (some [1,5,9])) (.cond (.t 9) (.seq (.ops false [⟨some 10,.mov (.t 5),none⟩,
 ⟨some 4,.mov (.t 10),none⟩] (some [4])) .ret) .skip))) (.seq (.seq (.ops false [⟨some 11,.mov (.t 1),none⟩,
 ⟨some 12,.not (.t 11),none⟩] (some [12])) (.cond (.t 12) (.seq (.ops false [⟨some 4,.mov (.k (.int 1)),none⟩] (some [4])) .ret) .skip)) (.seq (.ops false [⟨some 4,.mov (.k (.int 0)),none⟩] (some [4])) .ret))))
theorem m48 : fmatch Tryz.prog Tryz.f48 2 [.tmp 4] v48 = true := by kernel_rfl
def v49 : VC :=
 (.seq (.ops false [⟨some 2,.box 2 4 (.t 0),none⟩,⟨some 4,.mov (.k (.bool false)),none⟩] (some [1,2])) (.seq (.ops false [⟨some 5,.mov (.t 1),none⟩,
 ⟨some 6,.fld 2 (.t 2),none⟩,⟨some 7,.load 1 false (.t 6) [],none⟩,⟨some 8,.len (.t 7),none⟩,⟨some 9,.call 83 [.t 5,.k (.int 0),.t 8],none⟩,
 ⟨some 4,.mov (.t 9),none⟩] (some [4])) .ret))
theorem m49 : fmatch Tryz.prog Tryz.f49 2 [.tmp 4] v49 = true := by kernel_rfl
def v51 : VC :=
 (.seq (.ops false [⟨some 1,.box 1 4 (.t 0),none⟩,⟨some 2,.nils 2 1,none⟩] (some [1])) (.seq (.ops true [⟨some 3,.fld 2 (.t 1),none⟩,
 ⟨some 4,.load 1 false (.t 3) [],none⟩,⟨some 5,.fld 2 (.t 1),none⟩,⟨some 6,.load 1 false (.t 5) [],none⟩,⟨some 7,.len (.t 6),none⟩,⟨some 8,.fld 2 (.t 1),none⟩,
 ⟨some 9,.load 1 false (.t 8) [],none⟩,⟨some 10,.len (.t 9),none⟩,⟨some 11,.sliceF 1 (.t 4) none (some (.t 7)) (some (.t 10)),none⟩,⟨some 12,.fld 3 (.t 1),none⟩,
 ⟨some 13,.load 1 false (.t 12) [],none⟩,⟨some 14,.bslice 1 [.t 13],none⟩,⟨some 15,.app 15 1 24 (.t 11) (.t 14),none⟩,
 ⟨some 2,.mov (.t 15),none⟩] (some [2])) .ret))
theorem m51 : fmatch Tryz.prog Tryz.f51 1 [.tmp 2] v51 = true := by kernel_rfl
def v60 : VC :=
 (.seq (.ops false [⟨some 2,.box 2 4 (.t 0),none⟩,⟨some 4,.alloc 4 [.int 0,.int 0,.sl 1 [] .full,.sl 2 [] .full,.und,.und],none⟩,
 ⟨some 5,.mov (.k (.int 0)),none⟩] (some [1,2,4])) (.seq (.seq (.ops false [⟨some 8,.load 4 true (.t 2) [],none⟩,⟨some 9,.mov (.t 1),none⟩,
 ⟨some 10,.call 48 [.t 8,.t 9],none⟩,⟨some 6,.mov (.t 10),none⟩] (some [2,4,6])) (.seq (.ops false [⟨some 11,.mov (.t 6),none⟩,
 ⟨some 12,.bin .neq (.t 11) (.k (.int 0)),none⟩] (some [2,4,6,12])) (.cond (.t 12) (.seq (.ops false [⟨some 13,.build [.int 0,.int 0,.sl 1 [] .sh,.sl 2 [] .sh,.und,.und] [],none⟩,
 ⟨some 14,.mov (.t 6),none⟩,⟨none,.store 6 (.t 4) (.t 13) (some 4),none⟩,
 ⟨some 5,.mov (.t 14),none⟩] (some [4,5])) .ret) .skip))) (.seq (.ops false [⟨some 15,.load 4 true (.t 2) [],none⟩,⟨some 16,.call 72 [.t 15],none⟩,
 ⟨some 7,.alloc 7 [.int 0,.int 0,.sl 1 [] .full,.sl 2 [] .full,.und,.und],none⟩,
 ⟨none,.store 6 (.t 7) (.t 16) (some 7),none⟩] (some [4,7])) (.seq (.seq (.ops false [⟨some 17,.load 6 true (.t 7) [],none⟩,⟨some 18,.call 73 [.t 17],none⟩,
 ⟨some 19,.bin .eql (.t 18) (.k (.int 0)),none⟩] (some [4,7,19])) (.cond (.t 19) (.seq (.ops false [⟨some 20,.build [.int 0,.int 0,.sl 1 [] .sh,.sl 2 [] .sh,.und,.und] [],none⟩,
 ⟨none,.store 6 (.t 4) (.t 20) (some 4),none⟩,
 ⟨some 5,.mov (.k (.int 3)),none⟩] (some [4,5])) .ret) .skip)) (.seq (.ops false [⟨some 21,.load 6 true (.t 7) [],none⟩,
 ⟨none,.store 6 (.t 4) (.t 21) (some 4),none⟩,⟨some 5,.mov (.k (.int 0)),none⟩] (some [4,5])) .ret)))))
theorem m60 : fmatch Tryz.prog Tryz.f60 2 [.cell 4 112, .tmp 5] v60 = true := by kernel_rfl
def v61 : VC :=
 (.seq (.ops false [⟨some 5,.mov (.k (.int 0)),none⟩] (some [0,1,2,3])) (.seq (.ops true [⟨some 10,.load 6 true (.t 1) [7],none⟩,
 ⟨some 7,.alloc 7 [.int 0,.int 0,.sl 1 [] .full,.sl 2 [] .full,.und,.und],none⟩,⟨some 6,.mov (.k (.int 0)),none⟩,
 ⟨none,.store 6 (.t 7) (.t 10) (some 7),none⟩] (some [0,2,3,6,7])) (.seq (.seq (.ops false [⟨some 11,.fld 1 (.t 2),none⟩,⟨some 12,.load 1 false (.t 11) [],none⟩,
 ⟨some 13,.mov (.k (.int 0)),none⟩] (some [0,2,3,6,7,12,13])) (.block 0 (.loop (.seq (.ops false [⟨some 14,.bin .lss (.t 13) (.t 12),none⟩] (some [0,2,3,6,7,12,13,14])) (.seq (.cond (.t 14) .skip (.exit 0)) (.seq (.block 1 (.seq (.ops false [⟨some 15,.mov (.t 13),none⟩,
 ⟨some 8,.mov (.t 15),none⟩] (some [0,2,3,6,7,8,12,13])) (.seq (.ops false [⟨some 16,.mov (.t 0),none⟩,⟨some 17,.load 6 true (.t 7) [],none⟩,
 ⟨some 18,.load 1 false (.t 3) [],none⟩,⟨some 19,.mov (.t 8),none⟩,⟨some 20,.call 62 [.t 17,.t 18,.t 19],none⟩,⟨some 21,.callv (.t 16) [.t 20],none⟩,
 ⟨some 9,.mov (.t 21),none⟩] (some [0,2,3,6,7,8,9,12,13])) (.ops true [⟨some 22,.fld 0 (.t 2),none⟩,⟨some 23,.load 1 false (.t 22) [7],none⟩,
 ⟨some 24,.mov (.t 6),none⟩,⟨some 25,.mov (.t 9),none⟩,⟨some 26,.bslice 1 [.t 24,.t 25],none⟩,⟨some 27,.call 63 [.t 23,.t 26],none⟩,
 ⟨some 28,.load 6 true (.t 7) [],none⟩,⟨some 29,.load 1 false (.t 3) [7],none⟩,⟨some 30,.mov (.t 8),none⟩,⟨some 31,.mov (.t 9),none⟩,
 ⟨some 32,.call 64 [.t 28,.t 29,.t 30,.t 31],none⟩,⟨some 6,.mov (.t 27),none⟩,
 ⟨none,.store 6 (.t 7) (.t 32) (some 7),none⟩] (some [0,2,3,6,7,12,13]))))) (.ops false [⟨some 33,.bin .add (.t 13) (.k (.int 1)),none⟩,
 ⟨some 13,.mov (.t 33),none⟩] (some [0,2,3,6,7,12,13])))))))) (.seq (.ops false [⟨some 34,.mov (.t 6),none⟩,⟨some 5,.mov (.t 34),none⟩] (some [5])) .ret))))
theorem m61 : fmatch Tryz.prog Tryz.f61 4 [.tmp 5] v61 = true := by kernel_rfl
def v62 : VC :=
 (.seq (.ops false [⟨some 3,.box 3 6 (.t 0),none⟩,⟨some 6,.alloc 6 [.int 0,.int 0],none⟩] (some [1,2,3,6])) (.seq (.ops false [⟨some 9,.fld 0 (.t 3),none⟩,
 ⟨some 10,.fld 0 (.t 9),none⟩,⟨some 11,.load 1 false (.t 10) [],none⟩,⟨some 12,.build [.int 0,.int 0] [(0,1,.t 11)],none⟩,⟨some 7,.alloc 7 [.int 0,.int 0],none⟩,
 ⟨none,.store 2 (.t 7) (.t 12) (some 7),none⟩] (some [1,2,3,6,7])) (.seq (.seq (.ops false [⟨some 13,.load 6 true (.t 3) [],none⟩,⟨some 14,.mov (.t 1),none⟩,
 ⟨some 15,.mov (.t 2),none⟩,
 ⟨some 16,.call 108 [.t 13,.t 14,.t 15],none⟩] (some [6,7,16])) (.block 0 (.range (.t 16) [17,18] (.ops false [⟨some 8,.mov (.t 17),none⟩] (some [7,8])) (.block 1 (.ops false [⟨some 19,.fld 0 (.t 7),none⟩,
 ⟨some 20,.load 1 false (.t 19) [],none⟩,⟨some 21,.mov (.t 8),none⟩,⟨some 22,.min (.t 20) (.t 21),none⟩,⟨some 23,.fld 1 (.t 7),none⟩,
 ⟨some 24,.load 1 false (.t 23) [],none⟩,⟨some 25,.mov (.t 8),none⟩,⟨some 26,.max (.t 24) (.t 25),none⟩,
 ⟨some 27,.build [.int 0,.int 0] [(0,1,.t 22),(1,1,.t 26)],none⟩,
 ⟨none,.store 2 (.t 7) (.t 27) (some 7),none⟩] (some [])))))) (.seq (.ops false [⟨some 28,.load 2 true (.t 7) [],none⟩,
 ⟨none,.store 2 (.t 6) (.t 28) (some 6),none⟩] (some [6])) .ret))))
theorem m62 : fmatch Tryz.prog Tryz.f62 3 [.cell 6 35] v62 = true := by kernel_rfl
def v63 : VC :=
 (.seq (.ops false [⟨some 4,.mov (.k (.int 0)),none⟩] (some [0,1])) (.seq (.ops false [⟨some 5,.mov (.k (.int 0)),none⟩] (some [0,1,5])) (.seq (.seq (.ops false [⟨some 8,.mov (.t 1),none⟩,
 ⟨some 9,.len (.t 8),none⟩,
 ⟨some 10,.mov (.k (.int 0)),none⟩] (some [0,5,8,9,10])) (.block 0 (.loop (.seq (.ops false [⟨some 11,.bin .lss (.t 10) (.t 9),none⟩] (some [0,5,8,9,10,11])) (.seq (.cond (.t 11) .skip (.exit 0)) (.seq (.block 1 (.seq (.ops false [⟨some 12,.idx 1 (.t 8) (.t 10),none⟩,
 ⟨some 13,.load 1 false (.t 12) [],none⟩,⟨some 7,.mov (.t 13),none⟩] (some [0,5,7,8,9,10])) (.ops false [⟨some 14,.mov (.t 5),none⟩,⟨some 15,.mov (.t 0),none⟩,
 ⟨some 16,.bin .mul (.t 14) (.t 15),none⟩,⟨some 17,.mov (.t 7),none⟩,⟨some 18,.bin .add (.t 16) (.t 17),none⟩,
 ⟨some 5,.mov (.t 18),none⟩] (some [0,5,8,9,10])))) (.ops false [⟨some 19,.bin .add (.t 10) (.k (.int 1)),none⟩,
 ⟨some 10,.mov (.t 19),none⟩] (some [0,5,8,9,10])))))))) (.seq (.ops false [⟨some 20,.mov (.t 5),none⟩,⟨some 4,.mov (.t 20),none⟩] (some [4])) .ret))))
theorem m63 : fmatch Tryz.prog Tryz.f63 2 [.tmp 4] v63 = true := by kernel_rfl
def v64 : VC :=
 (.seq (.ops false [⟨some 4,.box 4 6 (.t 0),none⟩,⟨some 5,.box 5 1 (.t 1),none⟩,⟨some 6,.box 6 1 (.t 2),none⟩,⟨some 7,.box 7 1 (.t 3),none⟩,
 ⟨some 8,.alloc 8 [.int 0,.int 0,.sl 1 [] .full,.sl 2 [] .full,.und,.und],none⟩] (some [4,5,6,7,8])) (.seq (.ops false [⟨some 10,.fld 4 (.t 4),none⟩,
 ⟨some 11,.load 1 false (.t 10) [],none⟩,⟨some 9,.alloc 9 [.und],none⟩,
 ⟨none,.store 1 (.t 9) (.t 11) (some 9),none⟩] (some [4,5,6,7,8,9])) (.seq (.ops false [⟨some 12,.mkf 109 [.t 9,.t 5,.t 6,.t 7],none⟩,
 ⟨some 13,.fld 4 (.t 4),none⟩,⟨none,.store 1 (.t 13) (.t 12) (some 4),none⟩] (some [4,8])) (.seq (.ops false [⟨some 14,.load 6 true (.t 4) [],none⟩,
 ⟨none,.store 6 (.t 8) (.t 14) (some 8),none⟩] (some [8])) .ret))))
theorem m64 : fmatch Tryz.prog Tryz.f64 4 [.cell 8 112] v64 = true := by kernel_rfl
def v65 : VC :=
 (.seq (.ops false [⟨some 1,.box 1 2 (.t 0),none⟩,⟨some 2,.mov (.k (.int 0)),none⟩] (some [1])) (.seq (.ops false [⟨some 3,.fld 0 (.t 1),none⟩,
 ⟨some 4,.load 1 false (.t 3) [],none⟩,⟨some 2,.mov (.t 4),none⟩] (some [2])) .ret))
theorem m65 : fmatch Tryz.prog Tryz.f65 1 [.tmp 2] v65 = true := by kernel_rfl
def v66 : VC :=
 (.seq (.ops false [⟨some 1,.box 1 2 (.t 0),none⟩,⟨some 2,.mov (.k (.int 0)),none⟩] (some [1])) (.seq (.ops false [⟨some 3,.fld 1 (.t 1),none⟩,
 ⟨some 4,.load 1 false (.t 3) [],none⟩,⟨some 2,.mov (.t 4),none⟩] (some [2])) .ret))
theorem m66 : fmatch Tryz.prog Tryz.f66 1 [.tmp 2] v66 = true := by kernel_rfl
def v68 : VC :=
 (.seq (.ops false [⟨some 1,.box 1 3 (.t 0),none⟩,⟨some 2,.mov (.k (.bool false)),none⟩] (some [1])) (.seq (.seq (.ops false [⟨some 7,.fld 0 (.t 1),none⟩,
 ⟨some 8,.load 1 false (.t 7) [],none⟩,⟨some 9,.len (.t 8),none⟩,⟨some 10,.bin .gtr (.t 9) (.k (.int 6)),none⟩,⟨some 11,.mov (.t 10),none⟩,
 ⟨some 12,.fld 1 (.t 1),some (11,false)⟩,⟨some 13,.load 1 false (.t 12) [],some (11,false)⟩,⟨some 14,.len (.t 13),some (11,false)⟩,
 ⟨some 15,.bin .gtr (.t 14) (.k (.int 5)),some (11,false)⟩,
 ⟨some 16,.pick (.t 11) (.k (.bool true)) (.t 15),none⟩] (some [1,16])) (.cond (.t 16) (.seq (.ops false [⟨some 2,.mov (.k (.bool false)),none⟩] (some [2])) .ret) .skip)) (.seq (.seq (.ops false [⟨some 3,.mov (.k (.int 0)),none⟩] (some [1,3])) (.block 0 (.loop (.seq (.seq (.ops false [⟨some 17,.mov (.t 3),none⟩,
 ⟨some 18,.fld 0 (.t 1),none⟩,⟨some 19,.load 1 false (.t 18) [],none⟩,⟨some 20,.len (.t 19),none⟩,
 ⟨some 21,.bin .lss (.t 17) (.t 20),none⟩] (some [1,3,21])) (.cond (.t 21) .skip (.exit 0))) (.seq (.block 1 (.seq (.ops false [⟨some 24,.fld 0 (.t 1),none⟩,
 ⟨some 25,.load 1 false (.t 24) [],none⟩,⟨some 26,.mov (.t 3),none⟩,⟨some 27,.idx 1 (.t 25) (.t 26),none⟩,⟨some 28,.load 1 false (.t 27) [],none⟩,
 ⟨some 29,.call 110 [.t 28,.k (.int 0),.k (.int 9)],none⟩,
 ⟨some 30,.not (.t 29),none⟩] (some [1,3,30])) (.cond (.t 30) (.seq (.ops false [⟨some 2,.mov (.k (.bool false)),none⟩] (some [2])) .ret) .skip))) (.ops false [⟨some 22,.mov (.t 3),none⟩,
 ⟨some 23,.bin .add (.t 22) (.k (.int 1)),none⟩,
 ⟨some 3,.mov (.t 23),none⟩] (some [1,3]))))))) (.seq (.seq (.ops false [⟨some 4,.mov (.k (.int 0)),none⟩] (some [1,4])) (.block 2 (.loop (.seq (.seq (.ops false [⟨some 31,.mov (.t 4),none⟩,
 ⟨some 32,.fld 1 (.t 1),none⟩,⟨some 33,.load 1 false (.t 32) [],none⟩,⟨some 34,.len (.t 33),none⟩,
 ⟨some 35,.bin .lss (.t 31) (.t 34),none⟩] (some [1,4,35])) (.cond (.t 35) .skip (.exit 2))) (.seq (.block 3 (.seq (.ops false [⟨some 38,.fld 1 (.t 1),none⟩,
 ⟨some 39,.load 1 false (.t 38) [],none⟩,⟨some 40,.mov (.t 4),none⟩,⟨some 41,.idx 1 (.t 39) (.t 40),none⟩,⟨some 42,.load 1 false (.t 41) [],none⟩,
 ⟨some 43,.call 110 [.t 42,.k (.int 0),.k (.int 20)],none⟩,
 ⟨some 44,.not (.t 43),none⟩] (some [1,4,44])) (.cond (.t 44) (.seq (.ops false [⟨some 2,.mov (.k (.bool false)),none⟩] (some [2])) .ret) .skip))) (.ops false [⟨some 36,.mov (.t 4),none⟩,
 ⟨some 37,.bin .add (.t 36) (.k (.int 1)),none⟩,
 ⟨some 4,.mov (.t 37),none⟩] (some [1,4]))))))) (.seq (.seq (.ops false [⟨some 5,.mov (.k (.int 0)),none⟩] (some [1,5])) (.block 4 (.loop (.seq (.seq (.ops false [⟨some 45,.mov (.t 5),none⟩,
 ⟨some 46,.fld 2 (.t 1),none⟩,⟨some 47,.load 1 false (.t 46) [],none⟩,⟨some 48,.len (.t 47),none⟩,
 ⟨some 49,.bin .lss (.t 45) (.t 48),none⟩] (some [1,5,49])) (.cond (.t 49) .skip (.exit 4))) (.seq (.block 5 (.seq (.ops false [⟨some 52,.fld 2 (.t 1),none⟩,
 ⟨some 53,.load 1 false (.t 52) [],none⟩,⟨some 54,.mov (.t 5),none⟩,⟨some 55,.idx 2 (.t 53) (.t 54),none⟩,⟨some 56,.load 2 true (.t 55) [],none⟩,
 ⟨some 6,.alloc 6 [.int 0,.int 0],none⟩,⟨none,.store 2 (.t 6) (.t 56) (some 6),none⟩] (some [1,5,6])) (.seq (.ops true [⟨some 57,.load 3 true (.t 1) [],none⟩,
 ⟨some 58,.fld 0 (.t 6),none⟩,⟨some 59,.load 1 false (.t 58) [],none⟩,⟨some 60,.call 111 [.t 57,.t 59],none⟩,⟨some 61,.not (.t 60),none⟩,
 ⟨some 62,.mov (.t 61),none⟩,⟨some 63,.load 3 true (.t 1) [],some (62,false)⟩,⟨some 64,.fld 1 (.t 6),some (62,false)⟩,
 ⟨some 65,.load 1 false (.t 64) [],some (62,false)⟩,⟨some 66,.call 112 [.t 63,.t 65],some (62,false)⟩,⟨some 67,.not (.t 66),some (62,false)⟩,
 ⟨some 68,.pick (.t 62) (.k (.bool true)) (.t 67),none⟩,⟨some 69,.mov (.t 68),none⟩,⟨some 70,.mov (.t 5),some (69,false)⟩,
 ⟨some 71,.bin .gtr (.t 70) (.k (.int 0)),some (69,false)⟩,⟨some 72,.mov (.t 71),some (69,false)⟩,⟨some 73,.fld 2 (.t 1),some (72,true)⟩,
 ⟨some 74,.load 1 false (.t 73) [],some (72,true)⟩,⟨some 75,.mov (.t 5),some (72,true)⟩,⟨some 76,.bin .sub (.t 75) (.k (.int 1)),some (72,true)⟩,
 ⟨some 77,.idx 2 (.t 74) (.t 76),some (72,true)⟩,⟨some 78,.load 2 true (.t 77) [],some (72,true)⟩,⟨some 79,.load 2 true (.t 6) [],some (72,true)⟩,
 ⟨some 80,.call 113 [.t 78,.t 79],some (72,true)⟩,⟨some 81,.not (.t 80),some (72,true)⟩,⟨some 82,.pick (.t 72) (.t 81) (.k (.bool false)),some (69,false)⟩,
 ⟨some 83,.pick (.t 69) (.k (.bool true)) (.t 82),none⟩] (some [1,5,83])) (.cond (.t 83) (.seq (.ops false [⟨some 2,.mov (.k (.bool false)),none⟩] (some [2])) .ret) .skip)))) (.ops false [⟨some 50,.mov (.t 5),none⟩,
 ⟨some 51,.bin .add (.t 50) (.k (.int 1)),none⟩,
 ⟨some 5,.mov (.t 51),none⟩] (some [1,5]))))))) (.seq (.ops false [⟨some 2,.mov (.k (.bool true)),none⟩] (some [2])) .ret))))))
theorem m68 : fmatch Tryz.prog Tryz.f68 1 [.tmp 2] v68 = true := by kernel_rfl
def v69 : VC :=
 (.seq (.ops false [⟨some 0,.alloc 0 [.sl 1 [] .full,.sl 1 [] .full,.sl 2 [] .full],none⟩,⟨some 1,.alloc 1 [.sl 1 [] .full,.sl 1 [] .full,.sl 2 [] .full],none⟩,
 ⟨some 2,.alloc 2 [.sl 1 [] .full,.sl 1 [] .full,.sl 2 [] .full],none⟩] (some [0,1,2])) (.seq (.ops false [⟨some 3,.bslice 1 [.k (.int 5),.k (.int 4),.k (.int 3)],none⟩,
 ⟨some 4,.bslice 1 [.k (.int 4),.k (.int 3)],none⟩,⟨some 5,.build [.int 0,.int 0] [(0,1,.k (.int 0)),(1,1,.k (.int 0))],none⟩,
 ⟨some 6,.build [.int 0,.int 0] [(0,1,.k (.int 1)),(1,1,.k (.int 0))],none⟩,⟨some 7,.build [.int 0,.int 0] [(0,1,.k (.int 1)),(1,1,.k (.int 1))],none⟩,
 ⟨some 8,.build [.int 0,.int 0] [(0,1,.k (.int 2)),(1,1,.k (.int 1))],none⟩,⟨some 9,.bslice 2 [.t 5,.t 6,.t 7,.t 8],none⟩,
 ⟨some 10,.build [.sl 1 [] .sh,.sl 1 [] .sh,.sl 2 [] .sh] [(0,1,.t 3),(1,1,.t 4),(2,1,.t 9)],none⟩,
 ⟨none,.store 3 (.t 0) (.t 10) (some 0),none⟩] (some [0,1,2])) (.seq (.ops false [⟨some 11,.bslice 1 [.k (.int 2),.k (.int 3)],none⟩,
 ⟨some 12,.bslice 1 [.k (.int 5),.k (.int 0)],none⟩,⟨some 13,.build [.int 0,.int 0] [(0,1,.k (.int 0)),(1,1,.k (.int 0))],none⟩,
 ⟨some 14,.build [.int 0,.int 0] [(0,1,.k (.int 1)),(1,1,.k (.int 1))],none⟩,⟨some 15,.bslice 2 [.t 13,.t 14],none⟩,
 ⟨some 16,.build [.sl 1 [] .sh,.sl 1 [] .sh,.sl 2 [] .sh] [(0,1,.t 11),(1,1,.t 12),(2,1,.t 15)],none⟩,
 ⟨none,.store 3 (.t 1) (.t 16) (some 1),none⟩] (some [0,1,2])) (.seq (.ops false [⟨some 17,.bslice 1 [.k (.int 1)],none⟩,
 ⟨some 18,.bslice 1 [.k (.int 1),.k (.int 1)],none⟩,⟨some 19,.build [.int 0,.int 0] [(0,1,.k (.int 0)),(1,1,.k (.int 0))],none⟩,
 ⟨some 20,.build [.int 0,.int 0] [(0,1,.k (.int 0)),(1,1,.k (.int 1))],none⟩,⟨some 21,.bslice 2 [.t 19,.t 20],none⟩,
 ⟨some 22,.build [.sl 1 [] .sh,.sl 1 [] .sh,.sl 2 [] .sh] [(0,1,.t 17),(1,1,.t 18),(2,1,.t 21)],none⟩,
 ⟨none,.store 3 (.t 2) (.t 22) (some 2),none⟩] (some [0,1,2])) (.seq (.ops true [⟨some 23,.load 3 true (.t 0) [1,2],none⟩,
 ⟨some 24,.load 3 true (.t 1) [0,2],none⟩,⟨some 25,.load 3 true (.t 2) [0,1],none⟩,⟨none,.store 3 (.t 0) (.t 23) (some 0),none⟩,
 ⟨none,.store 3 (.t 1) (.t 24) (some 1),none⟩,⟨none,.store 3 (.t 2) (.t 25) (some 2),none⟩] (some [0,1,2])) .ret)))))
theorem m69 : fmatch Tryz.prog Tryz.f69 0 [.cell 0 54, .cell 1 54, .cell 2 54] v69 = true := by kernel_rfl
def v70 : VC :=
 (.seq (.ops false [⟨some 0,.alloc 0 [.sl 1 [] .full,.sl 1 [] .full],none⟩,
 ⟨some 1,.alloc 1 [.sl 1 [] .full,.sl 1 [] .full],none⟩] (some [0,1])) (.seq (.ops false [⟨some 2,.bslice 1 [.k (.int 5),.k (.int 3),.k (.int 1)],none⟩,
 ⟨some 3,.bslice 1 [.k (.int 9),.k (.int 9),.k (.int 9)],none⟩,⟨some 4,.build [.sl 1 [] .sh,.sl 1 [] .sh] [(0,1,.t 2),(1,1,.t 3)],none⟩,
 ⟨some 5,.bslice 1 [.k (.int 5),.k (.int 3),.k (.int 1)],none⟩,⟨some 6,.bslice 1 [.k (.int 2),.k (.int 1),.k (.int 0)],none⟩,
 ⟨some 7,.build [.sl 1 [] .sh,.sl 1 [] .sh] [(0,1,.t 5),(1,1,.t 6)],none⟩,⟨none,.store 2 (.t 0) (.t 4) (some 0),none⟩,
 ⟨none,.store 2 (.t 1) (.t 7) (some 1),none⟩] (some [0,1])) .ret))
theorem m70 : fmatch Tryz.prog Tryz.f70 0 [.cell 0 69, .cell 1 69] v70 = true := by kernel_rfl
def v71 : VC :=
 (.seq (.ops false [⟨some 1,.box 1 4 (.t 0),none⟩,⟨some 2,.mov (.k (.int 0)),none⟩] (some [1])) (.seq (.ops false [⟨some 4,.mkf 114 [.t 1],none⟩,
 ⟨some 3,.mov (.t 4),none⟩] (some [1,3])) (.seq (.seq (.ops false [⟨some 5,.fld 0 (.t 1),none⟩,⟨some 6,.load 1 false (.t 5) [],none⟩,
 ⟨some 7,.call 83 [.t 6,.k (.int 2),.k (.int 10)],none⟩,⟨some 8,.not (.t 7),none⟩,⟨some 9,.mov (.t 8),none⟩,⟨some 10,.fld 1 (.t 1),some (9,false)⟩,
 ⟨some 11,.load 1 false (.t 10) [],some (9,false)⟩,⟨some 12,.call 83 [.t 11,.k (.int 1),.k (.int 4)],some (9,false)⟩,⟨some 13,.not (.t 12),some (9,false)⟩,
 ⟨some 14,.pick (.t 9) (.k (.bool true)) (.t 13),none⟩,⟨some 15,.mov (.t 14),none⟩,⟨some 16,.fld 2 (.t 1),some (15,false)⟩,
 ⟨some 17,.load 1 false (.t 16) [],some (15,false)⟩,⟨some 18,.len (.t 17),some (15,false)⟩,⟨some 19,.bin .gtr (.t 18) (.k (.int 4)),some (15,false)⟩,
 ⟨some 20,.pick (.t 15) (.k (.bool true)) (.t 19),none⟩,⟨some 21,.mov (.t 20),none⟩,⟨some 22,.fld 2 (.t 1),some (21,false)⟩,
 ⟨some 23,.load 1 false (.t 22) [],some (21,false)⟩,⟨some 24,.mov (.t 3),some (21,false)⟩,⟨some 25,.call 116 [.t 23,.t 24],some (21,false)⟩,
 ⟨some 26,.pick (.t 21) (.k (.bool true)) (.t 25),none⟩,⟨some 27,.mov (.t 26),none⟩,⟨some 28,.mov (.t 3),some (27,false)⟩,
 ⟨some 29,.fld 3 (.t 1),some (27,false)⟩,⟨some 30,.load 1 false (.t 29) [],some (27,false)⟩,⟨some 31,.callv (.t 28) [.t 30],some (27,false)⟩,
 ⟨some 32,.pick (.t 27) (.k (.bool true)) (.t 31),none⟩] (some [32])) (.cond (.t 32) (.seq (.ops false [⟨some 2,.mov (.k (.int 110)),none⟩] (some [2])) .ret) .skip)) (.seq (.ops false [⟨some 2,.mov (.k (.int 0)),none⟩] (some [2])) .ret))))
theorem m71 : fmatch Tryz.prog Tryz.f71 1 [.tmp 2] v71 = true := by kernel_rfl
def v72 : VC :=
 (.seq (.ops false [⟨some 1,.box 1 4 (.t 0),none⟩,
 ⟨some 2,.alloc 2 [.int 0,.int 0,.sl 1 [] .full,.sl 2 [] .full,.und,.und],none⟩] (some [1,2])) (.seq (.ops false [⟨some 3,.load 4 true (.t 1) [],none⟩,
 ⟨some 4,.build [.int 0,.int 0,.sl 1 [] .sh,.sl 2 [] .sh,.und,.und] [(0,4,.t 3),(4,1,.k (.clo 117 [] [])),(5,1,.k (.clo 118 [] []))],none⟩,
 ⟨none,.store 6 (.t 2) (.t 4) (some 2),none⟩] (some [2])) .ret))
theorem m72 : fmatch Tryz.prog Tryz.f72 1 [.cell 2 112] v72 = true := by kernel_rfl
def v73 : VC :=
 (.seq (.ops false [⟨some 1,.box 1 6 (.t 0),none⟩,⟨some 2,.mov (.k (.int 0)),none⟩] (some [1])) (.seq (.ops false [⟨some 3,.load 6 true (.t 1) [],none⟩,
 ⟨some 4,.call 85 [.t 3],none⟩,⟨some 5,.fieldV 1 1 false (.t 4),none⟩,⟨some 2,.mov (.t 5),none⟩] (some [2])) .ret))
theorem m73 : fmatch Tryz.prog Tryz.f73 1 [.tmp 2] v73 = true := by kernel_rfl
def v75 : VC :=
 (.seq (.ops false [⟨some 1,.box 1 3 (.t 0),none⟩,⟨some 2,.mov (.k (.int 0)),none⟩] (some [1])) (.seq (.seq (.ops false [⟨some 5,.fld 0 (.t 1),none⟩,
 ⟨some 6,.load 1 false (.t 5) [],none⟩,⟨some 7,.len (.t 6),none⟩,⟨some 8,.bin .gtr (.t 7) (.k (.int 6)),none⟩,⟨some 9,.mov (.t 8),none⟩,
 ⟨some 10,.fld 1 (.t 1),some (9,false)⟩,⟨some 11,.load 1 false (.t 10) [],some (9,false)⟩,⟨some 12,.len (.t 11),some (9,false)⟩,
 ⟨some 13,.bin .gtr (.t 12) (.k (.int 5)),some (9,false)⟩,⟨some 14,.pick (.t 9) (.k (.bool true)) (.t 13),none⟩,⟨some 15,.mov (.t 14),none⟩,
 ⟨some 16,.fld 2 (.t 1),some (15,false)⟩,⟨some 17,.load 1 false (.t 16) [],some (15,false)⟩,⟨some 18,.len (.t 17),some (15,false)⟩,
 ⟨some 19,.bin .gtr (.t 18) (.k (.int 12)),some (15,false)⟩,
 ⟨some 20,.pick (.t 15) (.k (.bool true)) (.t 19),none⟩] (some [1,20])) (.cond (.t 20) (.seq (.ops false [⟨some 2,.mov (.k (.int 30)),none⟩] (some [2])) .ret) .skip)) (.seq (.seq (.ops false [⟨some 21,.fld 0 (.t 1),none⟩,
 ⟨some 22,.load 1 false (.t 21) [],none⟩,⟨some 23,.call 119 [.t 22,.k (.clo 120 [] [])],none⟩,⟨some 24,.mov (.t 23),none⟩,
 ⟨some 25,.fld 1 (.t 1),some (24,false)⟩,⟨some 26,.load 1 false (.t 25) [],some (24,false)⟩,⟨some 27,.call 119 [.t 26,.k (.clo 122 [] [])],some (24,false)⟩,
 ⟨some 28,.pick (.t 24) (.k (.bool true)) (.t 27),none⟩] (some [1,28])) (.cond (.t 28) (.seq (.ops false [⟨some 2,.mov (.k (.int 30)),none⟩] (some [2])) .ret) .skip)) (.seq (.seq (.ops false [⟨some 29,.fld 2 (.t 1),none⟩,
 ⟨some 30,.load 1 false (.t 29) [],none⟩,⟨some 31,.len (.t 30),none⟩,
 ⟨some 32,.mov (.k (.int 0)),none⟩] (some [1,30,31,32])) (.block 0 (.loop (.seq (.ops false [⟨some 33,.bin .lss (.t 32) (.t 31),none⟩] (some [1,30,31,32,33])) (.seq (.cond (.t 33) .skip (.exit 0)) (.seq (.block 1 (.seq (.ops false [⟨some 34,.mov (.t 32),none⟩,
 ⟨some 35,.idx 2 (.t 30) (.t 32),none⟩,⟨some 36,.load 2 true (.t 35) [],none⟩,⟨some 4,.alloc 4 [.int 0,.int 0],none⟩,⟨some 3,.mov (.t 34),none⟩,
 ⟨none,.store 2 (.t 4) (.t 36) (some 4),none⟩] (some [1,3,4,30,31,32])) (.seq (.ops true [⟨some 37,.load 3 true (.t 1) [],none⟩,⟨some 38,.fld 0 (.t 4),none⟩,
 ⟨some 39,.load 1 false (.t 38) [],none⟩,⟨some 40,.call 123 [.t 37,.t 39],none⟩,⟨some 41,.not (.t 40),none⟩,⟨some 42,.mov (.t 41),none⟩,
 ⟨some 43,.load 3 true (.t 1) [],some (42,false)⟩,⟨some 44,.fld 1 (.t 4),some (42,false)⟩,⟨some 45,.load 1 false (.t 44) [],some (42,false)⟩,
 ⟨some 46,.call 124 [.t 43,.t 45],some (42,false)⟩,⟨some 47,.not (.t 46),some (42,false)⟩,⟨some 48,.pick (.t 42) (.k (.bool true)) (.t 47),none⟩,
 ⟨some 49,.mov (.t 48),none⟩,⟨some 50,.mov (.t 3),some (49,false)⟩,⟨some 51,.bin .gtr (.t 50) (.k (.int 0)),some (49,false)⟩,
 ⟨some 52,.mov (.t 51),some (49,false)⟩,⟨some 53,.fld 2 (.t 1),some (52,true)⟩,⟨some 54,.load 1 false (.t 53) [],some (52,true)⟩,
 ⟨some 55,.mov (.t 3),some (52,true)⟩,⟨some 56,.bin .sub (.t 55) (.k (.int 1)),some (52,true)⟩,⟨some 57,.idx 2 (.t 54) (.t 56),some (52,true)⟩,
 ⟨some 58,.load 2 true (.t 57) [],some (52,true)⟩,⟨some 59,.load 2 true (.t 4) [],some (52,true)⟩,⟨some 60,.call 125 [.t 58,.t 59],some (52,true)⟩,
 ⟨some 61,.bin .geq (.t 60) (.k (.int 0)),some (52,true)⟩,⟨some 62,.pick (.t 52) (.t 61) (.k (.bool false)),some (49,false)⟩,
 ⟨some 63,.pick (.t 49) (.k (.bool true)) (.t 62),none⟩] (some [1,30,31,32,63])) (.cond (.t 63) (.seq (.ops false [⟨some 2,.mov (.k (.int 30)),none⟩] (some [2])) .ret) .skip)))) (.ops false [⟨some 64,.bin .add (.t 32) (.k (.int 1)),none⟩,
 ⟨some 32,.mov (.t 64),none⟩] (some [1,30,31,32])))))))) (.seq (.ops false [⟨some 2,.mov (.k (.int 0)),none⟩] (some [2])) .ret)))))
theorem m75 : fmatch Tryz.prog Tryz.f75 1 [.tmp 2] v75 = true := by kernel_rfl
def v76 : VC :=
 (.seq (.ops false [⟨some 1,.box 1 3 (.t 0),none⟩,⟨some 2,.nils 2 1,none⟩] (some [1])) (.seq (.opsB [⟨some 6,.load 3 true (.t 1) [],none⟩,
 ⟨some 7,.load 3 true (.t 1) [],none⟩,⟨some 8,.load 3 true (.k (.ref 3 [.agg [.int (-1),.int (-1),.int 0]] 0 0)) [],none⟩,
 ⟨some 9,.call 127 [.t 7,.t 8],none⟩] ⟨some 10,.calli 126 [.t 6,.t 9],none⟩ [⟨some 5,.mov (.t 10),none⟩,⟨some 11,.ext (.t 5) 0,none⟩,
 ⟨some 12,.ext (.t 5) 1,none⟩,⟨some 3,.mov (.t 11),none⟩,⟨some 4,.mov (.t 12),none⟩] (some [3])) (.seq (.ops false [⟨some 13,.mov (.t 3),none⟩,
 ⟨some 14,.calli 128 [.t 13],none⟩,⟨some 2,.mov (.t 14),none⟩] (some [2])) .ret)))
theorem m76 : fmatch Tryz.prog Tryz.f76 1 [.tmp 2] v76 = true := by kernel_rfl
def v78 : VC :=
 (.seq (.ops false [⟨some 6,.mov (.k (.bool false)),none⟩] (some [0,1,2])) (.seq (.ops false [⟨some 7,.mov (.t 0),none⟩,⟨some 8,.mov (.t 1),none⟩,
 ⟨some 9,.mov (.t 2),none⟩,⟨some 10,.call 8 [.t 7,.t 8,.t 9],none⟩,⟨some 6,.mov (.t 10),none⟩] (some [6])) .ret))
theorem m78 : fmatch Tryz.prog Tryz.f78 3 [.tmp 6] v78 = true := by kernel_rfl
def v79 : VC :=
 (.seq (.ops false [⟨some 2,.box 2 2 (.t 0),none⟩,⟨some 4,.mov (.k (.int 0)),none⟩] (some [1,2])) (.seq (.seq (.ops false [⟨some 6,.load 2 true (.t 2) [],none⟩,
 ⟨some 7,.call 129 [.t 6],none⟩,⟨some 5,.mov (.t 7),none⟩] (some [1,5])) (.seq (.ops false [⟨some 8,.mov (.t 5),none⟩,
 ⟨some 9,.bin .neq (.t 8) (.k (.int 0)),none⟩] (some [1,5,9])) (.cond (.t 9) (.seq (.ops false [⟨some 10,.mov (.t 5),none⟩,
 ⟨some 4,.mov (.t 10),none⟩] (some [4])) .ret) .skip))) (.seq (.seq (.ops false [⟨some 11,.mov (.t 1),none⟩,
 ⟨some 12,.not (.t 11),none⟩] (some [12])) (.cond (.t 12) (.seq (.ops false [⟨some 4,.mov (.k (.int 1)),none⟩] (some [4])) .ret) .skip)) (.seq (.ops false [⟨some 4,.mov (.k (.int 0)),none⟩] (some [4])) .ret))))
theorem m79 : fmatch Tryz.prog Tryz.f79 2 [.tmp 4] v79 = true := by kernel_rfl
def v80 : VC :=
 (.seq (.ops false [⟨some 2,.mov (.k (.bool false)),none⟩] (some [0])) (.seq (.ops false [⟨some 3,.mov (.t 0),none⟩,
 ⟨some 4,.call 130 [.t 3,.k (.int 0),.k (.int 40)],none⟩,⟨some 2,.mov (.t 4),none⟩] (some [2])) .ret))
theorem m80 : fmatch Tryz.prog Tryz.f80 1 [.tmp 2] v80 = true := by kernel_rfl
def v81 : VC :=
 (.seq (.ops false [⟨some 2,.box 2 2 (.t 0),none⟩,⟨some 3,.box 3 1 (.t 1),none⟩,
 ⟨some 4,.nils 4 1,none⟩] (some [2,3])) (.seq (.ops false [⟨some 8,.fld 0 (.t 2),none⟩,⟨some 9,.load 1 false (.t 8) [],none⟩,⟨some 10,.len (.t 9),none⟩,
 ⟨some 11,.makes 11 1 8 false [.int 0] (.t 10),none⟩,⟨some 5,.alloc 5 [.sl 1 [] .full],none⟩,
 ⟨none,.store 1 (.t 5) (.t 11) (some 5),none⟩] (some [2,3,5])) (.seq (.seq (.ops false [⟨some 12,.load 2 true (.t 2) [],none⟩,
 ⟨some 13,.build [.sl 1 [] .sh,.sl 1 [] .sh,.int 0,.int 0,.int 0,.int 0,.int 0] [(0,2,.t 12)],none⟩,
 ⟨some 14,.mkm 131 [.t 13],none⟩] (some [3,5,14])) (.block 0 (.range (.t 14) [15,16] (.seq (.ops false [⟨some 6,.mov (.t 15),none⟩] (some [3,5,6,16])) (.ops false [⟨some 7,.mov (.t 16),none⟩] (some [3,5,6,7]))) (.block 1 (.seq (.seq (.ops false [⟨some 17,.mov (.t 6),none⟩,
 ⟨some 18,.load 1 false (.t 3) [],none⟩,
 ⟨some 19,.bin .eql (.t 17) (.t 18),none⟩] (some [5,7,19])) (.cond (.t 19) (.exit 0) .skip)) (.seq (.ops false [⟨some 20,.mov (.t 7),none⟩,
 ⟨some 21,.bin .geq (.t 20) (.k (.int 0)),none⟩] (some [5,7,21])) (.cond (.t 21) (.ops false [⟨some 22,.load 1 false (.t 5) [],none⟩,⟨some 23,.mov (.t 7),none⟩,
 ⟨some 24,.idx 1 (.t 22) (.t 23),none⟩,⟨some 25,.load 1 false (.t 24) [],none⟩,⟨some 26,.bin .add (.t 25) (.k (.int 1)),none⟩,
 ⟨some 27,.idx 1 (.t 22) (.t 23),none⟩,
 ⟨none,.store 1 (.t 27) (.t 26) none,none⟩] (some [])) .skip))))))) (.seq (.ops false [⟨some 28,.load 1 false (.t 5) [],none⟩,
 ⟨some 4,.mov (.t 28),none⟩] (some [4])) .ret))))
theorem m81 : fmatch Tryz.prog Tryz.f81 2 [.tmp 4] v81 = true := by kernel_rfl
def v82 : VC :=
 (.seq (.ops false [⟨some 2,.mov (.k (.int 0)),none⟩] (some [0])) (.seq (.ops false [⟨some 3,.mov (.k (.int 0)),none⟩] (some [0,3])) (.seq (.seq (.ops false [⟨some 6,.mov (.t 0),none⟩,
 ⟨some 7,.len (.t 6),none⟩,
 ⟨some 8,.mov (.k (.int 0)),none⟩] (some [3,6,7,8])) (.block 0 (.loop (.seq (.ops false [⟨some 9,.bin .lss (.t 8) (.t 7),none⟩] (some [3,6,7,8,9])) (.seq (.cond (.t 9) .skip (.exit 0)) (.seq (.block 1 (.seq (.ops false [⟨some 10,.idx 1 (.t 6) (.t 8),none⟩,
 ⟨some 11,.load 1 false (.t 10) [],none⟩,⟨some 5,.mov (.t 11),none⟩] (some [3,5,6,7,8])) (.ops false [⟨some 12,.mov (.t 3),none⟩,⟨some 13,.mov (.t 5),none⟩,
 ⟨some 14,.bin .add (.t 12) (.t 13),none⟩,⟨some 3,.mov (.t 14),none⟩] (some [3,6,7,8])))) (.ops false [⟨some 15,.bin .add (.t 8) (.k (.int 1)),none⟩,
 ⟨some 8,.mov (.t 15),none⟩] (some [3,6,7,8])))))))) (.seq (.ops false [⟨some 16,.mov (.t 3),none⟩,⟨some 2,.mov (.t 16),none⟩] (some [2])) .ret))))
theorem m82 : fmatch Tryz.prog Tryz.f82 1 [.tmp 2] v82 = true := by kernel_rfl
def v83 : VC :=
 (.seq (.ops false [⟨some 6,.mov (.k (.bool false)),none⟩] (some [0,1,2])) (.seq (.ops false [⟨some 7,.mov (.t 1),none⟩,⟨some 8,.mov (.t 0),none⟩,
 ⟨some 9,.bin .leq (.t 7) (.t 8),none⟩,⟨some 10,.mov (.t 9),none⟩,⟨some 11,.mov (.t 0),some (10,true)⟩,⟨some 12,.mov (.t 2),some (10,true)⟩,
 ⟨some 13,.bin .leq (.t 11) (.t 12),some (10,true)⟩,⟨some 14,.pick (.t 10) (.t 13) (.k (.bool false)),none⟩,⟨some 6,.mov (.t 14),none⟩] (some [6])) .ret))
theorem m83 : fmatch Tryz.prog Tryz.f83 3 [.tmp 6] v83 = true := by kernel_rfl
def v84 : VC :=
 (.seq (.ops false [⟨some 1,.box 3001 1 (.t 0),none⟩,⟨some 2,.mov (.k .und),none⟩] (some [1])) (.seq (.ops false [⟨some 3,.mkw 132 [.t 1],none⟩,
 ⟨some 2,.mov (.t 3),none⟩] (some [2])) .ret))
theorem m84 : fmatch Tryz.prog Tryz.f84 1 [.tmp 2] v84 = true := by kernel_rfl
def v85 : VC :=
 (.seq (.ops false [⟨some 1,.box 1 6 (.t 0),none⟩,
 ⟨some 2,.alloc 2 [.int 0,.int 0],none⟩] (some [1,2])) (.seq (.ops false [⟨some 13,.call 133 [.k (.int 0)],none⟩,
 ⟨some 3,.alloc 3 (zeros [.int 0,.int 0] 51),none⟩,
 ⟨none,.store 102 (.t 3) (.t 13) (some 3),none⟩] (some [1,2,3])) (.seq (.seq (.ops false [⟨some 14,.fld 0 (.t 1),none⟩,⟨some 15,.fld 1 (.t 14),none⟩,
 ⟨some 16,.load 1 false (.t 15) [],none⟩,⟨some 17,.bin .sub (.t 16) (.k (.int 1)),none⟩,
 ⟨some 4,.mov (.t 17),none⟩] (some [1,2,3,4])) (.block 0 (.loop (.seq (.seq (.ops false [⟨some 18,.mov (.t 4),none⟩,
 ⟨some 19,.bin .geq (.t 18) (.k (.int 0)),none⟩] (some [1,2,3,4,19])) (.cond (.t 19) .skip (.exit 0))) (.seq (.block 1 (.seq (.ops false [⟨some 22,.load 102 true (.t 3) [],none⟩,
 ⟨some 5,.alloc 5 (zeros [.int 0,.int 0] 51),none⟩,
 ⟨none,.store 102 (.t 5) (.t 22) (some 5),none⟩] (some [1,2,3,4,5])) (.seq (.seq (.ops false [⟨some 23,.fld 0 (.t 1),none⟩,⟨some 24,.fld 2 (.t 23),none⟩,
 ⟨some 25,.load 1 false (.t 24) [],none⟩,⟨some 26,.len (.t 25),none⟩,
 ⟨some 27,.mov (.k (.int 0)),none⟩] (some [1,2,3,4,5,26,27])) (.block 2 (.loop (.seq (.ops false [⟨some 28,.bin .lss (.t 27) (.t 26),none⟩] (some [1,2,3,4,5,26,27,28])) (.seq (.cond (.t 28) .skip (.exit 2)) (.seq (.block 3 (.seq (.ops false [⟨some 29,.mov (.t 27),none⟩,
 ⟨some 6,.mov (.t 29),none⟩] (some [1,2,3,4,5,6,26,27])) (.ops false [⟨some 30,.load 6 true (.t 1) [],none⟩,⟨some 31,.load 102 true (.t 5) [],none⟩,
 ⟨some 32,.mov (.t 6),none⟩,⟨some 33,.mov (.t 4),none⟩,⟨some 34,.call 134 [.t 30,.t 31,.t 32,.t 33],none⟩,
 ⟨none,.store 102 (.t 5) (.t 34) (some 5),none⟩] (some [1,2,3,4,5,26,27])))) (.ops false [⟨some 35,.bin .add (.t 27) (.k (.int 1)),none⟩,
 ⟨some 27,.mov (.t 35),none⟩] (some [1,2,3,4,5,26,27])))))))) (.seq (.ops false [⟨some 36,.call 133 [.k (.int 0)],none⟩,
 ⟨none,.store 102 (.t 3) (.t 36) (some 3),none⟩] (some [1,2,3,4,5])) (.seq (.ops false [⟨some 37,.build [.int 0,.int 0] [(0,1,.k (.int 1048576)),(1,1,.k (.int 0))],none⟩,
 ⟨some 38,.idxA 51 2 (.t 3) (.k (.int 0)),none⟩,
 ⟨none,.store 2 (.t 38) (.t 37) (some 3),none⟩] (some [1,2,3,4,5])) (.seq (.ops false [⟨some 39,.load 102 true (.t 5) [],none⟩,
 ⟨some 40,.mov (.k (.int 0)),none⟩] (some [1,2,3,4,39,40])) (.block 4 (.loop (.seq (.ops false [⟨some 41,.bin .lss (.t 40) (.k (.int 51)),none⟩] (some [1,2,3,4,39,40,41])) (.seq (.cond (.t 41) .skip (.exit 4)) (.seq (.block 5 (.seq (.ops false [⟨some 42,.mov (.t 40),none⟩,
 ⟨some 43,.indexV 51 2 true (.t 39) (.t 40),none⟩,⟨some 8,.alloc 8 [.int 0,.int 0],none⟩,⟨some 7,.mov (.t 42),none⟩,
 ⟨none,.store 2 (.t 8) (.t 43) (some 8),none⟩] (some [1,2,3,4,7,8,39,40])) (.seq (.ops true [⟨some 44,.mov (.t 7),none⟩,⟨some 45,.fld 0 (.t 1),none⟩,
 ⟨some 46,.fld 0 (.t 45),none⟩,⟨some 47,.load 1 false (.t 46) [],none⟩,⟨some 48,.bin .rem (.t 44) (.t 47),none⟩,⟨some 49,.mov (.t 7),none⟩,
 ⟨some 50,.fld 0 (.t 1),none⟩,⟨some 51,.fld 0 (.t 50),none⟩,⟨some 52,.load 1 false (.t 51) [],none⟩,⟨some 53,.bin .quo (.t 49) (.t 52),none⟩,
 ⟨some 9,.mov (.t 48),none⟩,⟨some 10,.mov (.t 53),none⟩] (some [1,2,3,4,8,9,10,39,40])) (.seq (.seq (.ops false [⟨some 54,.fld 4 (.t 1),none⟩,
 ⟨some 55,.load 1 false (.t 54) [],none⟩,⟨some 56,.fld 0 (.t 1),none⟩,⟨some 57,.fld 2 (.t 56),none⟩,⟨some 58,.load 1 false (.t 57) [],none⟩,
 ⟨some 59,.len (.t 58),none⟩,⟨some 60,.mov (.t 4),none⟩,⟨some 61,.mov (.t 9),none⟩,⟨some 62,.callv (.t 55) [.t 59,.t 60,.t 61],none⟩,⟨some 63,.not (.t 62),none⟩,
 ⟨some 64,.mov (.t 63),none⟩,⟨some 65,.fld 5 (.t 1),some (64,false)⟩,⟨some 66,.load 1 false (.t 65) [],some (64,false)⟩,⟨some 67,.mov (.t 4),some (64,false)⟩,
 ⟨some 68,.mov (.t 10),some (64,false)⟩,⟨some 69,.callv (.t 66) [.t 67,.t 68],some (64,false)⟩,⟨some 70,.not (.t 69),some (64,false)⟩,
 ⟨some 71,.pick (.t 64) (.k (.bool true)) (.t 70),none⟩] (some [1,2,3,4,8,9,10,39,40,71])) (.cond (.t 71) (.exit 5) .skip)) (.seq (.ops true [⟨some 72,.fld 0 (.t 1),none⟩,
 ⟨some 73,.fld 3 (.t 72),none⟩,⟨some 74,.load 1 false (.t 73) [],none⟩,⟨some 75,.mov (.t 4),none⟩,⟨some 76,.idx 2 (.t 74) (.t 75),none⟩,
 ⟨some 77,.load 2 true (.t 76) [],none⟩,⟨some 78,.mov (.t 9),none⟩,⟨some 79,.call 88 [.t 77,.t 78],none⟩,⟨some 80,.mov (.t 10),none⟩,
 ⟨some 81,.idxA 51 2 (.t 3) (.t 80),none⟩,⟨some 11,.mov (.t 79),none⟩,
 ⟨some 12,.mov (.t 81),none⟩] (some [1,2,3,4,8,11,12,39,40])) (.seq (.ops true [⟨some 82,.mov (.t 12),none⟩,⟨some 83,.mov (.t 12),none⟩,
 ⟨some 84,.nilck (.t 83),none⟩,⟨some 85,.fld 0 (.t 84),none⟩,⟨some 86,.load 1 false (.t 85) [],none⟩,⟨some 87,.fld 0 (.t 8),none⟩,
 ⟨some 88,.load 1 false (.t 87) [],none⟩,⟨some 89,.mov (.t 11),none⟩,⟨some 90,.bin .add (.t 88) (.t 89),none⟩,⟨some 91,.min (.t 86) (.t 90),none⟩,
 ⟨some 92,.nilck (.t 82),none⟩,⟨some 93,.fld 0 (.t 92),none⟩,
 ⟨none,.store 1 (.t 93) (.t 91) none,none⟩] (some [1,2,3,4,8,11,12,39,40])) (.seq (.ops false [⟨some 94,.mov (.t 11),none⟩,
 ⟨some 95,.bin .eql (.t 94) (.k (.int 0)),none⟩] (some [1,2,3,4,8,12,39,40,95])) (.cond (.t 95) (.ops true [⟨some 96,.mov (.t 12),none⟩,
 ⟨some 97,.nilck (.t 96),none⟩,⟨some 98,.fld 1 (.t 97),none⟩,⟨some 99,.load 1 false (.t 98) [],none⟩,⟨some 100,.fld 1 (.t 8),none⟩,
 ⟨some 101,.load 1 false (.t 100) [],none⟩,⟨some 102,.bin .add (.t 99) (.t 101),none⟩,⟨some 103,.nilck (.t 96),none⟩,⟨some 104,.fld 1 (.t 103),none⟩,
 ⟨none,.store 1 (.t 104) (.t 102) none,none⟩] (some [1,2,3,4,39,40])) .skip)))))))) (.ops false [⟨some 105,.bin .add (.t 40) (.k (.int 1)),none⟩,
 ⟨some 40,.mov (.t 105),none⟩] (some [1,2,3,4,39,40]))))))))))))) (.ops false [⟨some 20,.mov (.t 4),none⟩,⟨some 21,.bin .sub (.t 20) (.k (.int 1)),none⟩,
 ⟨some 4,.mov (.t 21),none⟩] (some [1,2,3,4]))))))) (.seq (.ops false [⟨some 106,.idxA 51 2 (.t 3) (.k (.int 0)),none⟩,⟨some 107,.load 2 true (.t 106) [],none⟩,
 ⟨none,.store 2 (.t 2) (.t 107) (some 2),none⟩] (some [2])) .ret))))
theorem m85 : fmatch Tryz.prog Tryz.f85 1 [.cell 2 138] v85 = true := by kernel_rfl
def v86 : VC :=
 (.seq (.ops false [⟨some 2,.box 2 4 (.t 0),none⟩,⟨some 4,.mov (.k (.bool false)),none⟩] (some [1,2])) (.seq (.ops false [⟨some 5,.mov (.t 1),none⟩,
 ⟨some 6,.fld 1 (.t 2),none⟩,⟨some 7,.load 1 false (.t 6) [],none⟩,⟨some 8,.bin .sub (.t 7) (.k (.int 1)),none⟩,⟨some 9,.call 83 [.t 5,.k (.int 0),.t 8],none⟩,
 ⟨some 4,.mov (.t 9),none⟩] (some [4])) .ret))
theorem m86 : fmatch Tryz.prog Tryz.f86 2 [.tmp 4] v86 = true := by kernel_rfl
def v87 : VC :=
 (.seq (.ops false [⟨some 6,.mov (.k (.bool false)),none⟩] (some [0,1,2,3])) (.seq (.ops false [⟨some 7,.mov (.t 0),none⟩,⟨some 8,.load 1 false (.t 2) [],none⟩,
 ⟨some 9,.bin .neq (.t 7) (.t 8),none⟩,⟨some 10,.mov (.t 9),none⟩,⟨some 11,.mov (.t 1),some (10,false)⟩,⟨some 12,.load 1 false (.t 3) [],some (10,false)⟩,
 ⟨some 13,.bin .eql (.t 11) (.t 12),some (10,false)⟩,⟨some 14,.pick (.t 10) (.k (.bool true)) (.t 13),none⟩,⟨some 6,.mov (.t 14),none⟩] (some [6])) .ret))
theorem m87 : fmatch Tryz.prog Tryz.f87 4 [.tmp 6] v87 = true := by kernel_rfl
def v88 : VC :=
 (.seq (.ops false [⟨some 2,.box 2 2 (.t 0),none⟩,⟨some 4,.mov (.k (.int 0)),none⟩] (some [1,2])) (.seq (.ops false [⟨some 5,.fld 0 (.t 2),none⟩,
 ⟨some 6,.load 1 false (.t 5) [],none⟩,⟨some 7,.mov (.t 1),none⟩,⟨some 8,.bin .sub (.t 6) (.t 7),none⟩,⟨some 9,.mov (.t 1),none⟩,⟨some 10,.fld 1 (.t 2),none⟩,
 ⟨some 11,.load 1 false (.t 10) [],none⟩,⟨some 12,.bin .sub (.t 9) (.t 11),none⟩,⟨some 13,.max3 (.k (.int 0)) (.t 8) (.t 12),none⟩,
 ⟨some 4,.mov (.t 13),none⟩] (some [4])) .ret))
theorem m88 : fmatch Tryz.prog Tryz.f88 2 [.tmp 4] v88 = true := by kernel_rfl
def v108 : VC :=
 (.seq (.ops false [⟨some 3,.box 3 6 (.t 0),none⟩,⟨some 4,.box 4 1 (.t 1),none⟩,⟨some 5,.box 5 1 (.t 2),none⟩,
 ⟨some 6,.mov (.k .und),none⟩] (some [3,4,5])) (.seq (.ops false [⟨some 7,.mkf 142 [.t 3,.t 4,.t 5],none⟩,⟨some 6,.mov (.t 7),none⟩] (some [6])) .ret))
theorem m108 : fmatch Tryz.prog Tryz.f108 3 [.tmp 6] v108 = true := by kernel_rfl
def v109 : VC :=
 (.seq (.ops false [⟨some 10,.mov (.k (.bool false)),none⟩] (some [0,1,2,3,4,5,6])) (.seq (.ops false [⟨some 11,.load 1 false (.t 3) [],none⟩,
 ⟨some 12,.mov (.t 0),none⟩,⟨some 13,.mov (.t 1),none⟩,⟨some 14,.mov (.t 2),none⟩,⟨some 15,.callv (.t 11) [.t 12,.t 13,.t 14],none⟩,⟨some 16,.mov (.t 15),none⟩,
 ⟨some 17,.mov (.t 0),some (16,true)⟩,⟨some 18,.load 1 false (.t 4) [],some (16,true)⟩,⟨some 19,.bin .neq (.t 17) (.t 18),some (16,true)⟩,
 ⟨some 20,.mov (.t 19),some (16,true)⟩,⟨some 21,.mov (.t 1),some (20,false)⟩,⟨some 22,.load 1 false (.t 5) [],some (20,false)⟩,
 ⟨some 23,.bin .neq (.t 21) (.t 22),some (20,false)⟩,⟨some 24,.pick (.t 20) (.k (.bool true)) (.t 23),some (16,true)⟩,⟨some 25,.mov (.t 24),some (16,true)⟩,
 ⟨some 26,.mov (.t 2),some (25,false)⟩,⟨some 27,.load 1 false (.t 6) [],some (25,false)⟩,⟨some 28,.bin .eql (.t 26) (.t 27),some (25,false)⟩,
 ⟨some 29,.pick (.t 25) (.k (.bool true)) (.t 28),some (16,true)⟩,⟨some 30,.pick (.t 16) (.t 29) (.k (.bool false)),none⟩,
 ⟨some 10,.mov (.t 30),none⟩] (some [10])) .ret))
theorem m109 : fmatch Tryz.prog Tryz.f109 7 [.tmp 10] v109 = true := by kernel_rfl
def v110 : VC :=
 (.seq (.ops false [⟨some 6,.mov (.k (.bool false)),none⟩] (some [0,1,2])) (.seq (.ops false [⟨some 7,.mov (.t 0),none⟩,⟨some 8,.mov (.t 1),none⟩,
 ⟨some 9,.mov (.t 2),none⟩,⟨some 10,.call 8 [.t 7,.t 8,.t 9],none⟩,⟨some 6,.mov (.t 10),none⟩] (some [6])) .ret))
theorem m110 : fmatch Tryz.prog Tryz.f110 3 [.tmp 6] v110 = true := by kernel_rfl
def v111 : VC :=
 (.seq (.ops false [⟨some 2,.box 2 3 (.t 0),none⟩,⟨some 4,.mov (.k (.bool false)),none⟩] (some [1,2])) (.seq (.ops false [⟨some 5,.mov (.t 1),none⟩,
 ⟨some 6,.fld 0 (.t 2),none⟩,⟨some 7,.load 1 false (.t 6) [],none⟩,⟨some 8,.len (.t 7),none⟩,⟨some 9,.bin .sub (.t 8) (.k (.int 1)),none⟩,
 ⟨some 10,.call 110 [.t 5,.k (.int 0),.t 9],none⟩,⟨some 4,.mov (.t 10),none⟩] (some [4])) .ret))
theorem m111 : fmatch Tryz.prog Tryz.f111 2 [.tmp 4] v111 = true := by kernel_rfl
def v112 : VC :=
 (.seq (.ops false [⟨some 2,.box 2 3 (.t 0),none⟩,⟨some 4,.mov (.k (.bool false)),none⟩] (some [1,2])) (.seq (.ops false [⟨some 5,.mov (.t 1),none⟩,
 ⟨some 6,.fld 1 (.t 2),none⟩,⟨some 7,.load 1 false (.t 6) [],none⟩,⟨some 8,.len (.t 7),none⟩,⟨some 9,.bin .sub (.t 8) (.k (.int 1)),none⟩,
 ⟨some 10,.call 110 [.t 5,.k (.int 0),.t 9],none⟩,⟨some 4,.mov (.t 10),none⟩] (some [4])) .ret))
theorem m112 : fmatch Tryz.prog Tryz.f112 2 [.tmp 4] v112 = true := by kernel_rfl
def v113 : VC :=
 (.seq (.ops false [⟨some 2,.box 2 2 (.t 0),none⟩,⟨some 3,.box 3 2 (.t 1),none⟩,
 ⟨some 4,.mov (.k (.bool false)),none⟩] (some [2,3])) (.seq (.ops false [⟨some 5,.fld 0 (.t 2),none⟩,⟨some 6,.load 1 false (.t 5) [],none⟩,
 ⟨some 7,.fld 0 (.t 3),none⟩,⟨some 8,.load 1 false (.t 7) [],none⟩,⟨some 9,.bin .lss (.t 6) (.t 8),none⟩,⟨some 10,.mov (.t 9),none⟩,
 ⟨some 11,.fld 0 (.t 2),some (10,false)⟩,⟨some 12,.load 1 false (.t 11) [],some (10,false)⟩,⟨some 13,.fld 0 (.t 3),some (10,false)⟩,
 ⟨some 14,.load 1 false (.t 13) [],some (10,false)⟩,⟨some 15,.bin .eql (.t 12) (.t 14),some (10,false)⟩,⟨some 16,.mov (.t 15),some (10,false)⟩,
 ⟨some 17,.fld 1 (.t 2),some (16,true)⟩,⟨some 18,.load 1 false (.t 17) [],some (16,true)⟩,⟨some 19,.fld 1 (.t 3),some (16,true)⟩,
 ⟨some 20,.load 1 false (.t 19) [],some (16,true)⟩,⟨some 21,.bin .lss (.t 18) (.t 20),some (16,true)⟩,
 ⟨some 22,.pick (.t 16) (.t 21) (.k (.bool false)),some (10,false)⟩,⟨some 23,.pick (.t 10) (.k (.bool true)) (.t 22),none⟩,
 ⟨some 4,.mov (.t 23),none⟩] (some [4])) .ret))
theorem m113 : fmatch Tryz.prog Tryz.f113 2 [.tmp 4] v113 = true := by kernel_rfl
def v114 : VC :=
 (.seq (.ops false [⟨some 3,.mov (.k (.bool false)),none⟩] (some [0,1])) (.seq (.ops false [⟨some 4,.load 4 true (.t 1) [],none⟩,⟨some 5,.mov (.t 0),none⟩,
 ⟨some 6,.call 115 [.t 4,.t 5],none⟩,⟨some 7,.not (.t 6),none⟩,⟨some 3,.mov (.t 7),none⟩] (some [3])) .ret))
theorem m114 : fmatch Tryz.prog Tryz.f114 2 [.tmp 3] v114 = true := by kernel_rfl
def v115 : VC :=
 (.seq (.ops false [⟨some 2,.box 2 4 (.t 0),none⟩,⟨some 4,.mov (.k (.bool false)),none⟩] (some [1,2])) (.seq (.ops false [⟨some 6,.mkf 143 [.t 2],none⟩,
 ⟨some 5,.mov (.t 6),none⟩] (some [1,2,5])) (.seq (.ops false [⟨some 7,.mov (.t 1),none⟩,⟨some 8,.len (.t 7),none⟩,⟨some 9,.fld 1 (.t 2),none⟩,
 ⟨some 10,.load 1 false (.t 9) [],none⟩,⟨some 11,.bin .eql (.t 8) (.t 10),none⟩,⟨some 12,.mov (.t 11),none⟩,⟨some 13,.mov (.t 1),some (12,true)⟩,
 ⟨some 14,.mov (.t 5),some (12,true)⟩,⟨some 15,.call 144 [.t 13,.t 14],some (12,true)⟩,⟨some 16,.not (.t 15),some (12,true)⟩,
 ⟨some 17,.pick (.t 12) (.t 16) (.k (.bool false)),none⟩,⟨some 4,.mov (.t 17),none⟩] (some [4])) .ret)))
theorem m115 : fmatch Tryz.prog Tryz.f115 2 [.tmp 4] v115 = true := by kernel_rfl
def v116 : VC :=
 (.seq (.ops false [⟨some 4,.mov (.k (.bool false)),none⟩] (some [0,1])) (.seq (.ops false [⟨some 5,.mov (.t 0),none⟩,⟨some 6,.mov (.t 1),none⟩,
 ⟨some 7,.call 145 [.t 5,.t 6],none⟩,⟨some 8,.bin .geq (.t 7) (.k (.int 0)),none⟩,⟨some 4,.mov (.t 8),none⟩] (some [4])) .ret))
theorem m116 : fmatch Tryz.prog Tryz.f116 2 [.tmp 4] v116 = true := by kernel_rfl
def v117 : VC :=
 (.seq (.ops false [⟨some 6,.mov (.k (.bool false)),none⟩] (some [])) (.seq (.ops false [⟨some 6,.mov (.k (.bool true)),none⟩] (some [6])) .ret))
theorem m117 : fmatch Tryz.prog Tryz.f117 3 [.tmp 6] v117 = true := by kernel_rfl
def v118 : VC :=
 (.seq (.ops false [⟨some 4,.mov (.k (.bool false)),none⟩] (some [])) (.seq (.ops false [⟨some 4,.mov (.k (.bool true)),none⟩] (some [4])) .ret))
theorem m118 : fmatch Tryz.prog Tryz.f118 2 [.tmp 4] v118 = true := by kernel_rfl
def v119 : VC :=
 (.seq (.ops false [⟨some 4,.mov (.k (.bool false)),none⟩] (some [0,1])) (.seq (.ops false [⟨some 5,.mov (.t 0),none⟩,⟨some 6,.mov (.t 1),none⟩,
 ⟨some 7,.call 146 [.t 5,.t 6],none⟩,⟨some 8,.bin .geq (.t 7) (.k (.int 0)),none⟩,⟨some 4,.mov (.t 8),none⟩] (some [4])) .ret))
theorem m119 : fmatch Tryz.prog Tryz.f119 2 [.tmp 4] v119 = true := by kernel_rfl
def v120 : VC :=
 (.seq (.ops false [⟨some 2,.mov (.k (.bool false)),none⟩] (some [0])) (.seq (.ops false [⟨some 3,.mov (.t 0),none⟩,
 ⟨some 4,.call 121 [.t 3,.k (.int 0),.k (.int 9)],none⟩,⟨some 5,.not (.t 4),none⟩,⟨some 2,.mov (.t 5),none⟩] (some [2])) .ret))
theorem m120 : fmatch Tryz.prog Tryz.f120 1 [.tmp 2] v120 = true := by kernel_rfl
def v121 : VC :=
 (.seq (.ops false [⟨some 6,.mov (.k (.bool false)),none⟩] (some [0,1,2])) (.seq (.ops false [⟨some 7,.mov (.t 1),none⟩,⟨some 8,.mov (.t 0),none⟩,
 ⟨some 9,.bin .leq (.t 7) (.t 8),none⟩,⟨some 10,.mov (.t 9),none⟩,⟨some 11,.mov (.t 0),some (10,true)⟩,⟨some 12,.mov (.t 2),some (10,true)⟩,
 ⟨some 13,.bin .leq (.t 11) (.t 12),some (10,true)⟩,⟨some 14,.pick (.t 10) (.t 13) (.k (.bool false)),none⟩,⟨some 6,.mov (.t 14),none⟩] (some [6])) .ret))
theorem m121 : fmatch Tryz.prog Tryz.f121 3 [.tmp 6] v121 = true := by kernel_rfl
def v122 : VC :=
 (.seq (.ops false [⟨some 2,.mov (.k (.bool false)),none⟩] (some [0])) (.seq (.ops false [⟨some 3,.mov (.t 0),none⟩,
 ⟨some 4,.call 121 [.t 3,.k (.int 0),.k (.int 20)],none⟩,⟨some 5,.not (.t 4),none⟩,⟨some 2,.mov (.t 5),none⟩] (some [2])) .ret))
theorem m122 : fmatch Tryz.prog Tryz.f122 1 [.tmp 2] v122 = true := by kernel_rfl
def v123 : VC :=
 (.seq (.ops false [⟨some 2,.box 2 3 (.t 0),none⟩,⟨some 4,.mov (.k (.bool false)),none⟩] (some [1,2])) (.seq (.ops false [⟨some 5,.mov (.t 1),none⟩,
 ⟨some 6,.fld 0 (.t 2),none⟩,⟨some 7,.load 1 false (.t 6) [],none⟩,⟨some 8,.len (.t 7),none⟩,⟨some 9,.bin .sub (.t 8) (.k (.int 1)),none⟩,
 ⟨some 10,.call 121 [.t 5,.k (.int 0),.t 9],none⟩,⟨some 4,.mov (.t 10),none⟩] (some [4])) .ret))
theorem m123 : fmatch Tryz.prog Tryz.f123 2 [.tmp 4] v123 = true := by kernel_rfl
def v124 : VC :=
 (.seq (.ops false [⟨some 2,.box 2 3 (.t 0),none⟩,⟨some 4,.mov (.k (.bool false)),none⟩] (some [1,2])) (.seq (.ops false [⟨some 5,.mov (.t 1),none⟩,
 ⟨some 6,.fld 1 (.t 2),none⟩,⟨some 7,.load 1 false (.t 6) [],none⟩,⟨some 8,.len (.t 7),none⟩,⟨some 9,.bin .sub (.t 8) (.k (.int 1)),none⟩,
 ⟨some 10,.call 121 [.t 5,.k (.int 0),.t 9],none⟩,⟨some 4,.mov (.t 10),none⟩] (some [4])) .ret))
theorem m124 : fmatch Tryz.prog Tryz.f124 2 [.tmp 4] v124 = true := by kernel_rfl
def v125 : VC :=
 (.seq (.ops false [⟨some 2,.box 2 2 (.t 0),none⟩,⟨some 3,.box 3 2 (.t 1),none⟩,
 ⟨some 4,.mov (.k (.int 0)),none⟩] (some [2,3])) (.seq (.ops true [⟨some 5,.fld 0 (.t 2),none⟩,⟨some 6,.load 1 false (.t 5) [],none⟩,⟨some 7,.fld 0 (.t 3),none⟩,
 ⟨some 8,.load 1 false (.t 7) [],none⟩,⟨some 9,.call 148 [.t 6,.t 8],none⟩,⟨some 10,.fld 1 (.t 2),none⟩,⟨some 11,.load 1 false (.t 10) [],none⟩,
 ⟨some 12,.fld 1 (.t 3),none⟩,⟨some 13,.load 1 false (.t 12) [],none⟩,⟨some 14,.call 148 [.t 11,.t 13],none⟩,⟨some 15,.bslice 1 [.t 9,.t 14],none⟩,
 ⟨some 16,.call 147 [.t 15],none⟩,⟨some 4,.mov (.t 16),none⟩] (some [4])) .ret))
theorem m125 : fmatch Tryz.prog Tryz.f125 2 [.tmp 4] v125 = true := by kernel_rfl
def v126 (b1 b2 : List (Nat × Nat × BX)) : VC :=
 (.seq (.ops false [⟨some 2,.box 2 3 (.t 0),none⟩,⟨some 4,.nils 4 1,none⟩,⟨some 5,.nils 5 1,none⟩] (some [1,2])) (.seq (.ops true [⟨some 8,.fld 0 (.t 2),none⟩,
 ⟨some 9,.load 1 false (.t 8) [1048576],none⟩,⟨some 10,.calls 149 1 [.t 9] b1,none⟩,⟨some 11,.fld 1 (.t 2),none⟩,⟨some 12,.load 1 false (.t 11) [1048576],none⟩,
 ⟨some 13,.calls 149 2 [.t 12] b2,none⟩,⟨some 4,.mov (.t 10),none⟩,
 ⟨some 5,.mov (.t 13),none⟩] (some [1,2,4,5])) (.seq (.seq (.ops false [⟨some 14,.mov (.t 1),none⟩,⟨some 15,.len (.t 14),none⟩,
 ⟨some 16,.mov (.k (.int 0)),none⟩] (some [2,4,5,14,15,16])) (.block 0 (.loop (.seq (.ops false [⟨some 17,.bin .lss (.t 16) (.t 15),none⟩] (some [2,4,5,14,15,16,17])) (.seq (.cond (.t 17) .skip (.exit 0)) (.seq (.block 1 (.seq (.ops false [⟨some 18,.mov (.t 16),none⟩,
 ⟨some 19,.idx 1 (.t 14) (.t 16),none⟩,⟨some 20,.load 1 false (.t 19) [],none⟩,⟨some 6,.mov (.t 18),none⟩,
 ⟨some 7,.mov (.t 20),none⟩] (some [2,4,5,6,7,14,15,16])) (.seq (.ops false [⟨some 21,.mov (.t 4),none⟩,⟨some 22,.fld 2 (.t 2),none⟩,
 ⟨some 23,.load 1 false (.t 22) [],none⟩,⟨some 24,.mov (.t 6),none⟩,⟨some 25,.idx 2 (.t 23) (.t 24),none⟩,⟨some 26,.fld 0 (.t 25),none⟩,
 ⟨some 27,.load 1 false (.t 26) [],none⟩,⟨some 28,.idx 1 (.t 21) (.t 27),none⟩,⟨some 29,.load 1 false (.t 28) [],none⟩,⟨some 30,.mov (.t 7),none⟩,
 ⟨some 31,.bin .sub (.t 29) (.t 30),none⟩,⟨some 32,.idx 1 (.t 21) (.t 27),none⟩,
 ⟨none,.store 1 (.t 32) (.t 31) none,none⟩] (some [2,4,5,6,7,14,15,16])) (.ops false [⟨some 33,.mov (.t 5),none⟩,⟨some 34,.fld 2 (.t 2),none⟩,
 ⟨some 35,.load 1 false (.t 34) [],none⟩,⟨some 36,.mov (.t 6),none⟩,⟨some 37,.idx 2 (.t 35) (.t 36),none⟩,⟨some 38,.fld 1 (.t 37),none⟩,
 ⟨some 39,.load 1 false (.t 38) [],none⟩,⟨some 40,.idx 1 (.t 33) (.t 39),none⟩,⟨some 41,.load 1 false (.t 40) [],none⟩,⟨some 42,.mov (.t 7),none⟩,
 ⟨some 43,.bin .sub (.t 41) (.t 42),none⟩,⟨some 44,.idx 1 (.t 33) (.t 39),none⟩,
 ⟨none,.store 1 (.t 44) (.t 43) none,none⟩] (some [2,4,5,14,15,16]))))) (.ops false [⟨some 45,.bin .add (.t 16) (.k (.int 1)),none⟩,
 ⟨some 16,.mov (.t 45),none⟩] (some [2,4,5,14,15,16])))))))) (.seq (.ops false [⟨some 46,.mov (.t 4),none⟩,⟨some 47,.mov (.t 5),none⟩,⟨some 4,.mov (.t 46),none⟩,
 ⟨some 5,.mov (.t 47),none⟩] (some [4,5])) .ret))))
theorem m126 (b1 b2 : List (Nat × Nat × BX)) : fmatch Tryz.prog Tryz.f126 2 [.tmp 4, .tmp 5] (v126 b1 b2) = true := by kernel_rfl
def v127 : VC :=
 (.seq (.ops false [⟨some 2,.box 2 3 (.t 0),none⟩,⟨some 3,.box 3 3 (.t 1),none⟩,
 ⟨some 4,.nils 4 1,none⟩] (some [2,3])) (.seq (.ops true [⟨some 10,.load 3 true (.t 2) [15,17],none⟩,⟨some 11,.load 3 true (.t 3) [15,17],none⟩,
 ⟨some 12,.fld 2 (.t 2),none⟩,⟨some 13,.load 1 false (.t 12) [15,17],none⟩,⟨some 14,.len (.t 13),none⟩,⟨some 15,.makes 15 1 8 false [.int 0] (.t 14),none⟩,
 ⟨some 16,.buildW [.sl 1 [] .sh,.sl 1 [] .sh,.sl 2 [] .sh,.int 0,.int 0,.int 0,.sl 1 [] .sh] [(0,3,.t 10),(3,3,.t 11),(6,1,.t 15)],none⟩,
 ⟨some 17,.box 17 7 (.t 16),none⟩,⟨some 5,.mov (.t 17),none⟩] (some [5])) (.block 0 (.loop (.block 1 (.seq (.ops false [⟨some 19,.mov (.t 5),none⟩,
 ⟨some 20,.callL 150 [.t 19] [15,17],none⟩,⟨some 18,.mov (.t 20),none⟩,⟨some 21,.ext (.t 18) 0,none⟩,⟨some 22,.ext (.t 18) 1,none⟩,⟨some 6,.mov (.t 21),none⟩,
 ⟨some 7,.mov (.t 22),none⟩] (some [5,6,7])) (.seq (.seq (.ops false [⟨some 23,.mov (.t 7),none⟩,
 ⟨some 24,.bin .geq (.t 23) (.k (.int 0)),none⟩] (some [5,6,24])) (.cond (.t 24) (.seq (.ops false [⟨some 25,.mov (.t 5),none⟩,⟨some 26,.nilck (.t 25),none⟩,
 ⟨some 27,.fld 6 (.t 26),none⟩,⟨some 28,.load 1 false (.t 27) [],none⟩,
 ⟨some 4,.mov (.t 28),none⟩] (some [4])) .ret) .skip)) (.seq (.ops false [⟨some 29,.mov (.t 6),none⟩,⟨some 30,.len (.t 29),none⟩,
 ⟨some 31,.mov (.k (.int 0)),none⟩] (some [5,29,30,31])) (.block 2 (.loop (.seq (.ops false [⟨some 32,.bin .lss (.t 31) (.t 30),none⟩] (some [5,29,30,31,32])) (.seq (.cond (.t 32) .skip (.exit 2)) (.seq (.block 3 (.seq (.ops false [⟨some 33,.idx 5 (.t 29) (.t 31),none⟩,
 ⟨some 34,.load 5 true (.t 33) [],none⟩,⟨some 9,.alloc 9 [.int 0,.int 0,.int 0,.int 0,.int 0],none⟩,
 ⟨none,.store 5 (.t 9) (.t 34) (some 9),none⟩] (some [5,9,29,30,31])) (.seq (.ops false [⟨some 35,.fld 3 (.t 9),none⟩,⟨some 36,.load 1 false (.t 35) [],none⟩,
 ⟨some 37,.bin .geq (.t 36) (.k (.int 0)),none⟩] (some [5,9,29,30,31,37])) (.cond (.t 37) (.ops true [⟨some 38,.mov (.t 5),none⟩,⟨some 39,.nilck (.t 38),none⟩,
 ⟨some 40,.fld 6 (.t 39),none⟩,⟨some 41,.load 1 false (.t 40) [],none⟩,⟨some 42,.fld 3 (.t 9),none⟩,⟨some 43,.load 1 false (.t 42) [],none⟩,
 ⟨some 44,.idx 1 (.t 41) (.t 43),none⟩,⟨some 45,.load 1 false (.t 44) [],none⟩,⟨some 46,.fld 4 (.t 9),none⟩,⟨some 47,.load 1 false (.t 46) [],none⟩,
 ⟨some 48,.bin .add (.t 45) (.t 47),none⟩,⟨some 49,.idx 1 (.t 41) (.t 43),none⟩,
 ⟨none,.store 1 (.t 49) (.t 48) none,none⟩] (some [5,29,30,31])) .skip)))) (.ops false [⟨some 50,.bin .add (.t 31) (.k (.int 1)),none⟩,
 ⟨some 31,.mov (.t 50),none⟩] (some [5,29,30,31])))))))))))))))
theorem m127 : fmatch Tryz.prog Tryz.f127 2 [.tmp 4] v127 = true := by kernel_rfl
def v128 : VC :=
 (.seq (.ops false [⟨some 2,.nils 7002 1,none⟩] (some [0])) (.seq (.ops false [⟨some 3,.mov (.t 0),none⟩,
 ⟨some 4,.calli 151 [.t 3,.k (.clo 152 [] [])],none⟩] (some [0])) (.seq (.ops false [⟨some 5,.mov (.t 0),none⟩,⟨some 2,.mov (.t 5),none⟩] (some [2])) .ret)))
theorem m128 : fmatch Tryz.prog Tryz.f128 1 [.tmp 2] v128 = true := by kernel_rfl
def v129 : VC :=
 (.seq (.ops false [⟨some 1,.box 1 2 (.t 0),none⟩,⟨some 2,.mov (.k (.int 0)),none⟩] (some [1])) (.seq (.seq (.ops false [⟨some 3,.fld 0 (.t 1),none⟩,
 ⟨some 4,.load 1 false (.t 3) [],none⟩,⟨some 5,.len (.t 4),none⟩,⟨some 6,.bin .gtr (.t 5) (.k (.int 5)),none⟩,⟨some 7,.mov (.t 6),none⟩,
 ⟨some 8,.fld 1 (.t 1),some (7,false)⟩,⟨some 9,.load 1 false (.t 8) [],some (7,false)⟩,⟨some 10,.len (.t 9),some (7,false)⟩,
 ⟨some 11,.fld 0 (.t 1),some (7,false)⟩,⟨some 12,.load 1 false (.t 11) [],some (7,false)⟩,⟨some 13,.len (.t 12),some (7,false)⟩,
 ⟨some 14,.bin .neq (.t 10) (.t 13),some (7,false)⟩,⟨some 15,.pick (.t 7) (.k (.bool true)) (.t 14),none⟩,⟨some 16,.mov (.t 15),none⟩,
 ⟨some 17,.fld 0 (.t 1),some (16,false)⟩,⟨some 18,.load 1 false (.t 17) [],some (16,false)⟩,⟨some 19,.call 153 [.k (.int 20),.t 18],some (16,false)⟩,
 ⟨some 20,.not (.t 19),some (16,false)⟩,⟨some 21,.pick (.t 16) (.k (.bool true)) (.t 20),none⟩,⟨some 22,.mov (.t 21),none⟩,
 ⟨some 23,.fld 1 (.t 1),some (22,false)⟩,⟨some 24,.load 1 false (.t 23) [],some (22,false)⟩,⟨some 25,.call 153 [.k (.int 20),.t 24],some (22,false)⟩,
 ⟨some 26,.not (.t 25),some (22,false)⟩,
 ⟨some 27,.pick (.t 22) (.k (.bool true)) (.t 26),none⟩] (some [27])) (.cond (.t 27) (.seq (.ops false [⟨some 2,.mov (.k (.int 70)),none⟩] (some [2])) .ret) .skip)) (.seq (.ops false [⟨some 2,.mov (.k (.int 0)),none⟩] (some [2])) .ret)))
theorem m129 : fmatch Tryz.prog Tryz.f129 1 [.tmp 2] v129 = true := by kernel_rfl
def v130 : VC :=
 (.seq (.ops false [⟨some 6,.mov (.k (.bool false)),none⟩] (some [0,1,2])) (.seq (.ops false [⟨some 7,.mov (.t 1),none⟩,⟨some 8,.mov (.t 0),none⟩,
 ⟨some 9,.bin .leq (.t 7) (.t 8),none⟩,⟨some 10,.mov (.t 9),none⟩,⟨some 11,.mov (.t 0),some (10,true)⟩,⟨some 12,.mov (.t 2),some (10,true)⟩,
 ⟨some 13,.bin .leq (.t 11) (.t 12),some (10,true)⟩,⟨some 14,.pick (.t 10) (.t 13) (.k (.bool false)),none⟩,⟨some 6,.mov (.t 14),none⟩] (some [6])) .ret))
theorem m130 : fmatch Tryz.prog Tryz.f130 3 [.tmp 6] v130 = true := by kernel_rfl
def v131 : VC :=
 (.seq (.ops false [⟨some 2,.box 1002 7 (.t 0),none⟩] (some [1,2])) (.seq (.ops false [⟨some 4,.mov (.k (.int 0)),none⟩] (some [1,2,4])) (.block 0 (.loop (.seq (.block 1 (.seq (.ops false [⟨some 8,.callb 154 [.t 2] [],none⟩,
 ⟨some 5,.mov (.t 8),none⟩] (some [1,2,4,5])) (.seq (.seq (.ops false [⟨some 9,.mov (.t 1),none⟩,⟨some 10,.mov (.t 4),none⟩,⟨some 11,.mov (.t 5),none⟩,
 ⟨some 12,.yield (.t 9) [.t 10,.t 11],none⟩,
 ⟨some 13,.not (.t 12),none⟩] (some [1,2,4,5,13])) (.cond (.t 13) .ret .skip)) (.seq (.ops false [⟨some 14,.mov (.t 5),none⟩,
 ⟨some 15,.bin .geq (.t 14) (.k (.int 0)),none⟩] (some [1,2,4,5,15])) (.cond (.t 15) (.ops false [⟨some 16,.mov (.t 5),none⟩,⟨some 17,.fld 2 (.t 2),none⟩,
 ⟨some 18,.idxA 5 1 (.t 17) (.t 16),none⟩,⟨some 19,.load 1 false (.t 18) [],none⟩,⟨some 20,.bin .add (.t 19) (.k (.int 1)),none⟩,⟨some 21,.fld 2 (.t 2),none⟩,
 ⟨some 22,.idxA 5 1 (.t 21) (.t 16),none⟩,⟨none,.store 1 (.t 22) (.t 20) (some 1002),none⟩] (some [1,2,4])) .skip))))) (.ops false [⟨some 6,.mov (.t 4),none⟩,
 ⟨some 7,.bin .add (.t 6) (.k (.int 1)),none⟩,⟨some 4,.mov (.t 7),none⟩] (some [1,2,4])))))))
theorem m131 : fmatch Tryz.prog Tryz.f131 2 [] v131 = true := by kernel_rfl
def v132 : VC :=
 (.seq (.ops false [⟨some 4,.load 1 false (.t 1) [],none⟩,⟨some 5,.len (.t 4),none⟩,⟨some 6,.bin .sub (.t 5) (.k (.int 1)),none⟩,
 ⟨some 3,.mov (.t 6),none⟩] (some [0,1,3])) (.block 0 (.loop (.seq (.seq (.ops false [⟨some 7,.mov (.t 3),none⟩,
 ⟨some 8,.bin .geq (.t 7) (.k (.int 0)),none⟩] (some [0,1,3,8])) (.cond (.t 8) .skip (.exit 0))) (.seq (.block 1 (.seq (.ops false [⟨some 11,.mov (.t 0),none⟩,
 ⟨some 12,.mov (.t 3),none⟩,⟨some 13,.load 1 false (.t 1) [],none⟩,⟨some 14,.mov (.t 3),none⟩,⟨some 15,.idx 1 (.t 13) (.t 14),none⟩,
 ⟨some 16,.load 1 false (.t 15) [],none⟩,⟨some 17,.yield (.t 11) [.t 12,.t 16],none⟩,
 ⟨some 18,.not (.t 17),none⟩] (some [0,1,3,18])) (.cond (.t 18) .ret .skip))) (.ops false [⟨some 9,.mov (.t 3),none⟩,
 ⟨some 10,.bin .sub (.t 9) (.k (.int 1)),none⟩,⟨some 3,.mov (.t 10),none⟩] (some [0,1,3])))))))
theorem m132 : fmatch Tryz.prog Tryz.f132 2 [] v132 = true := by kernel_rfl
def v133 : VC :=
 (.seq (.ops false [⟨some 2,.alloc 2 (zeros [.int 0,.int 0] 51),none⟩] (some [0,2])) (.seq (.seq (.ops false [⟨some 4,.mov (.k (.int 0)),none⟩] (some [0,2,4])) (.block 0 (.loop (.seq (.ops false [⟨some 5,.bin .lss (.t 4) (.k (.int 51)),none⟩] (some [0,2,4,5])) (.seq (.cond (.t 5) .skip (.exit 0)) (.seq (.block 1 (.seq (.ops false [⟨some 6,.mov (.t 4),none⟩,
 ⟨some 3,.mov (.t 6),none⟩] (some [0,2,3,4])) (.ops false [⟨some 7,.mov (.t 3),none⟩,⟨some 8,.idxA 51 2 (.t 2) (.t 7),none⟩,⟨some 9,.fld 0 (.t 8),none⟩,
 ⟨none,.store 1 (.t 9) (.k (.int 1048576)) (some 2),none⟩] (some [0,2,4])))) (.ops false [⟨some 10,.bin .add (.t 4) (.k (.int 1)),none⟩,
 ⟨some 4,.mov (.t 10),none⟩] (some [0,2,4])))))))) (.seq (.ops false [⟨some 11,.mov (.t 0),none⟩,
 ⟨some 12,.build [.int 0,.int 0] [(0,1,.k (.int 0)),(1,1,.k (.int 1))],none⟩,⟨some 13,.idxA 51 2 (.t 2) (.t 11),none⟩,
 ⟨none,.store 2 (.t 13) (.t 12) (some 2),none⟩] (some [2])) (.seq (.ops false [⟨some 14,.load 102 true (.t 2) [],none⟩,
 ⟨none,.store 102 (.t 2) (.t 14) (some 2),none⟩] (some [2])) .ret))))
theorem m133 : fmatch Tryz.prog Tryz.f133 1 [.cell 2 182] v133 = true := by kernel_rfl
def v134 : VC :=
 (.seq (.ops false [⟨some 4,.box 4 6 (.t 0),none⟩,⟨some 5,.box 5 102 (.t 1),none⟩,
 ⟨some 8,.alloc 8 (zeros [.int 0,.int 0] 51),none⟩] (some [2,3,4,5,8])) (.seq (.ops false [⟨some 15,.call 133 [.k (.int 0)],none⟩,
 ⟨some 9,.alloc 9 (zeros [.int 0,.int 0] 51),none⟩,
 ⟨none,.store 102 (.t 9) (.t 15) (some 9),none⟩] (some [2,3,4,5,8,9])) (.seq (.ops false [⟨some 16,.build [.int 0,.int 0] [(0,1,.k (.int 1048576)),(1,1,.k (.int 0))],none⟩,
 ⟨some 17,.idxA 51 2 (.t 9) (.k (.int 0)),none⟩,
 ⟨none,.store 2 (.t 17) (.t 16) (some 9),none⟩] (some [2,3,4,5,8,9])) (.seq (.seq (.ops false [⟨some 18,.fld 0 (.t 4),none⟩,⟨some 19,.fld 0 (.t 18),none⟩,
 ⟨some 20,.load 1 false (.t 19) [],none⟩,
 ⟨some 21,.mov (.k (.int 0)),none⟩] (some [2,3,4,5,8,9,20,21])) (.block 0 (.loop (.seq (.ops false [⟨some 22,.bin .lss (.t 21) (.t 20),none⟩] (some [2,3,4,5,8,9,20,21,22])) (.seq (.cond (.t 22) .skip (.exit 0)) (.seq (.block 1 (.seq (.ops false [⟨some 23,.mov (.t 21),none⟩,
 ⟨some 10,.mov (.t 23),none⟩] (some [2,3,4,5,8,9,10,20,21])) (.seq (.seq (.ops false [⟨some 24,.fld 4 (.t 4),none⟩,⟨some 25,.load 1 false (.t 24) [],none⟩,
 ⟨some 26,.mov (.t 2),none⟩,⟨some 27,.mov (.t 3),none⟩,⟨some 28,.mov (.t 10),none⟩,⟨some 29,.callv (.t 25) [.t 26,.t 27,.t 28],none⟩,
 ⟨some 30,.not (.t 29),none⟩] (some [2,3,4,5,8,9,10,20,21,30])) (.cond (.t 30) (.exit 1) .skip)) (.seq (.ops false [⟨some 31,.fld 0 (.t 4),none⟩,
 ⟨some 32,.fld 2 (.t 31),none⟩,⟨some 33,.load 1 false (.t 32) [],none⟩,⟨some 34,.mov (.t 2),none⟩,⟨some 35,.idx 1 (.t 33) (.t 34),none⟩,
 ⟨some 36,.load 1 false (.t 35) [],none⟩,⟨some 37,.mov (.t 3),none⟩,⟨some 38,.idx 2 (.t 36) (.t 37),none⟩,⟨some 39,.load 2 true (.t 38) [],none⟩,
 ⟨some 40,.mov (.t 10),none⟩,⟨some 41,.call 88 [.t 39,.t 40],none⟩,
 ⟨some 11,.mov (.t 41),none⟩] (some [2,3,4,5,8,9,10,11,20,21])) (.seq (.ops false [⟨some 42,.mov (.t 10),none⟩,⟨some 43,.bin .sub (.k (.int 51)) (.t 42),none⟩,
 ⟨some 44,.sliceA 51 2 true (.t 5) none (some (.t 43)),none⟩,⟨some 45,.len (.t 44),none⟩,
 ⟨some 46,.mov (.k (.int 0)),none⟩] (some [2,3,4,5,8,9,10,11,20,21,44,45,46])) (.block 2 (.loop (.seq (.ops false [⟨some 47,.bin .lss (.t 46) (.t 45),none⟩] (some [2,3,4,5,8,9,10,11,20,21,44,45,46,47])) (.seq (.cond (.t 47) .skip (.exit 2)) (.seq (.block 3 (.seq (.ops false [⟨some 48,.mov (.t 46),none⟩,
 ⟨some 49,.idx 2 (.t 44) (.t 46),none⟩,⟨some 50,.load 2 true (.t 49) [],none⟩,⟨some 13,.alloc 13 [.int 0,.int 0],none⟩,⟨some 12,.mov (.t 48),none⟩,
 ⟨none,.store 2 (.t 13) (.t 50) (some 13),none⟩] (some [2,3,4,5,8,9,10,11,12,13,20,21,44,45,46])) (.seq (.ops false [⟨some 51,.mov (.t 12),none⟩,
 ⟨some 52,.mov (.t 10),none⟩,⟨some 53,.bin .add (.t 51) (.t 52),none⟩,⟨some 54,.idxA 51 2 (.t 9) (.t 53),none⟩,
 ⟨some 14,.mov (.t 54),none⟩] (some [2,3,4,5,8,9,10,11,13,14,20,21,44,45,46])) (.seq (.ops true [⟨some 55,.mov (.t 14),none⟩,⟨some 56,.mov (.t 14),none⟩,
 ⟨some 57,.nilck (.t 56),none⟩,⟨some 58,.fld 0 (.t 57),none⟩,⟨some 59,.load 1 false (.t 58) [],none⟩,⟨some 60,.fld 0 (.t 13),none⟩,
 ⟨some 61,.load 1 false (.t 60) [],none⟩,⟨some 62,.mov (.t 11),none⟩,⟨some 63,.bin .add (.t 61) (.t 62),none⟩,⟨some 64,.min (.t 59) (.t 63),none⟩,
 ⟨some 65,.nilck (.t 55),none⟩,⟨some 66,.fld 0 (.t 65),none⟩,
 ⟨none,.store 1 (.t 66) (.t 64) none,none⟩] (some [2,3,4,5,8,9,10,11,13,14,20,21,44,45,46])) (.seq (.ops false [⟨some 67,.mov (.t 11),none⟩,
 ⟨some 68,.bin .eql (.t 67) (.k (.int 0)),none⟩] (some [2,3,4,5,8,9,10,11,13,14,20,21,44,45,46,68])) (.cond (.t 68) (.ops true [⟨some 69,.mov (.t 14),none⟩,
 ⟨some 70,.nilck (.t 69),none⟩,⟨some 71,.fld 1 (.t 70),none⟩,⟨some 72,.load 1 false (.t 71) [],none⟩,⟨some 73,.fld 1 (.t 13),none⟩,
 ⟨some 74,.load 1 false (.t 73) [],none⟩,⟨some 75,.bin .add (.t 72) (.t 74),none⟩,⟨some 76,.nilck (.t 69),none⟩,⟨some 77,.fld 1 (.t 76),none⟩,
 ⟨none,.store 1 (.t 77) (.t 75) none,none⟩] (some [2,3,4,5,8,9,10,11,20,21,44,45,46])) .skip)))))) (.ops false [⟨some 78,.bin .add (.t 46) (.k (.int 1)),none⟩,
 ⟨some 46,.mov (.t 78),none⟩] (some [2,3,4,5,8,9,10,11,20,21,44,45,46])))))))))))) (.ops false [⟨some 79,.bin .add (.t 21) (.k (.int 1)),none⟩,
 ⟨some 21,.mov (.t 79),none⟩] (some [2,3,4,5,8,9,20,21])))))))) (.seq (.ops false [⟨some 80,.load 102 true (.t 9) [],none⟩,
 ⟨none,.store 102 (.t 8) (.t 80) (some 8),none⟩] (some [8])) .ret)))))
theorem m134 : fmatch Tryz.prog Tryz.f134 4 [.cell 8 182] v134 = true := by kernel_rfl
def v142 : VC :=
 (.seq (.ops false [⟨some 7,.fld 0 (.t 1),none⟩,⟨some 8,.fld 0 (.t 7),none⟩,⟨some 9,.load 1 false (.t 8) [],none⟩,
 ⟨some 10,.mov (.k (.int 0)),none⟩] (some [0,1,2,3,9,10])) (.block 0 (.loop (.seq (.ops false [⟨some 11,.bin .lss (.t 10) (.t 9),none⟩] (some [0,1,2,3,9,10,11])) (.seq (.cond (.t 11) .skip (.exit 0)) (.seq (.block 1 (.seq (.ops false [⟨some 12,.mov (.t 10),none⟩,
 ⟨some 5,.mov (.t 12),none⟩] (some [0,1,2,3,5,9,10])) (.seq (.ops false [⟨some 13,.load 6 true (.t 1) [],none⟩,⟨some 14,.load 1 false (.t 2) [],none⟩,
 ⟨some 15,.load 1 false (.t 3) [],none⟩,⟨some 16,.mov (.t 5),none⟩,⟨some 17,.call 64 [.t 13,.t 14,.t 15,.t 16],none⟩,⟨some 18,.call 73 [.t 17],none⟩,
 ⟨some 6,.mov (.t 18),none⟩] (some [0,1,2,3,5,6,9,10])) (.seq (.ops false [⟨some 19,.mov (.t 6),none⟩,⟨some 20,.bin .gtr (.t 19) (.k (.int 0)),none⟩,
 ⟨some 21,.mov (.t 20),none⟩,⟨some 22,.mov (.t 0),some (21,true)⟩,⟨some 23,.mov (.t 5),some (21,true)⟩,⟨some 24,.mov (.t 6),some (21,true)⟩,
 ⟨some 25,.yield (.t 22) [.t 23,.t 24],some (21,true)⟩,⟨some 26,.not (.t 25),some (21,true)⟩,
 ⟨some 27,.pick (.t 21) (.t 26) (.k (.bool false)),none⟩] (some [0,1,2,3,9,10,27])) (.cond (.t 27) .ret .skip))))) (.ops false [⟨some 28,.bin .add (.t 10) (.k (.int 1)),none⟩,
 ⟨some 10,.mov (.t 28),none⟩] (some [0,1,2,3,9,10]))))))))
theorem m142 : fmatch Tryz.prog Tryz.f142 4 [] v142 = true := by kernel_rfl
def v143 : VC :=
 (.seq (.ops false [⟨some 2,.box 2 2 (.t 0),none⟩,⟨some 3,.mov (.k (.bool false)),none⟩] (some [1,2])) (.seq (.ops false [⟨some 4,.fld 0 (.t 2),none⟩,
 ⟨some 5,.load 1 false (.t 4) [],none⟩,⟨some 6,.fld 1 (.t 2),none⟩,⟨some 7,.load 1 false (.t 6) [],none⟩,⟨some 8,.call 83 [.t 5,.k (.int 0),.t 7],none⟩,
 ⟨some 9,.not (.t 8),none⟩,⟨some 10,.mov (.t 9),none⟩,⟨some 11,.fld 1 (.t 2),some (10,false)⟩,⟨some 12,.load 1 false (.t 11) [],some (10,false)⟩,
 ⟨some 13,.fld 0 (.t 1),some (10,false)⟩,⟨some 14,.load 1 false (.t 13) [],some (10,false)⟩,⟨some 15,.bin .geq (.t 12) (.t 14),some (10,false)⟩,
 ⟨some 16,.pick (.t 10) (.k (.bool true)) (.t 15),none⟩,⟨some 3,.mov (.t 16),none⟩] (some [3])) .ret))
theorem m143 : fmatch Tryz.prog Tryz.f143 2 [.tmp 3] v143 = true := by kernel_rfl
def v144 : VC :=
 (.seq (.ops false [⟨some 4,.mov (.k (.bool false)),none⟩] (some [0,1])) (.seq (.ops false [⟨some 5,.mov (.t 0),none⟩,⟨some 6,.mov (.t 1),none⟩,
 ⟨some 7,.call 161 [.t 5,.t 6],none⟩,⟨some 8,.bin .geq (.t 7) (.k (.int 0)),none⟩,⟨some 4,.mov (.t 8),none⟩] (some [4])) .ret))
theorem m144 : fmatch Tryz.prog Tryz.f144 2 [.tmp 4] v144 = true := by kernel_rfl
def v145 : VC :=
 (.seq (.ops false [⟨some 4,.mov (.k (.int 0)),none⟩] (some [0,1])) (.seq (.seq (.ops false [⟨some 6,.mov (.t 0),none⟩,⟨some 7,.len (.t 6),none⟩,
 ⟨some 8,.mov (.k (.int 0)),none⟩] (some [0,1,7,8])) (.block 0 (.loop (.seq (.ops false [⟨some 9,.bin .lss (.t 8) (.t 7),none⟩] (some [0,1,7,8,9])) (.seq (.cond (.t 9) .skip (.exit 0)) (.seq (.block 1 (.seq (.ops false [⟨some 10,.mov (.t 8),none⟩,
 ⟨some 5,.mov (.t 10),none⟩] (some [0,1,5,7,8])) (.seq (.ops false [⟨some 11,.mov (.t 1),none⟩,⟨some 12,.mov (.t 0),none⟩,⟨some 13,.mov (.t 5),none⟩,
 ⟨some 14,.idx 1 (.t 12) (.t 13),none⟩,⟨some 15,.load 1 false (.t 14) [],none⟩,
 ⟨some 16,.callv (.t 11) [.t 15],none⟩] (some [0,1,5,7,8,16])) (.cond (.t 16) (.seq (.ops false [⟨some 17,.mov (.t 5),none⟩,
 ⟨some 4,.mov (.t 17),none⟩] (some [4])) .ret) .skip)))) (.ops false [⟨some 18,.bin .add (.t 8) (.k (.int 1)),none⟩,
 ⟨some 8,.mov (.t 18),none⟩] (some [0,1,7,8])))))))) (.seq (.ops false [⟨some 4,.mov (.k (.int (-1))),none⟩] (some [4])) .ret)))
theorem m145 : fmatch Tryz.prog Tryz.f145 2 [.tmp 4] v145 = true := by kernel_rfl
def v146 : VC :=
 (.seq (.ops false [⟨some 4,.mov (.k (.int 0)),none⟩] (some [0,1])) (.seq (.seq (.ops false [⟨some 6,.mov (.t 0),none⟩,⟨some 7,.len (.t 6),none⟩,
 ⟨some 8,.mov (.k (.int 0)),none⟩] (some [0,1,7,8])) (.block 0 (.loop (.seq (.ops false [⟨some 9,.bin .lss (.t 8) (.t 7),none⟩] (some [0,1,7,8,9])) (.seq (.cond (.t 9) .skip (.exit 0)) (.seq (.block 1 (.seq (.ops false [⟨some 10,.mov (.t 8),none⟩,
 ⟨some 5,.mov (.t 10),none⟩] (some [0,1,5,7,8])) (.seq (.ops false [⟨some 11,.mov (.t 1),none⟩,⟨some 12,.mov (.t 0),none⟩,⟨some 13,.mov (.t 5),none⟩,
 ⟨some 14,.idx 1 (.t 12) (.t 13),none⟩,⟨some 15,.load 1 false (.t 14) [],none⟩,
 ⟨some 16,.callv (.t 11) [.t 15],none⟩] (some [0,1,5,7,8,16])) (.cond (.t 16) (.seq (.ops false [⟨some 17,.mov (.t 5),none⟩,
 ⟨some 4,.mov (.t 17),none⟩] (some [4])) .ret) .skip)))) (.ops false [⟨some 18,.bin .add (.t 8) (.k (.int 1)),none⟩,
 ⟨some 8,.mov (.t 18),none⟩] (some [0,1,7,8])))))))) (.seq (.ops false [⟨some 4,.mov (.k (.int (-1))),none⟩] (some [4])) .ret)))
theorem m146 : fmatch Tryz.prog Tryz.f146 2 [.tmp 4] v146 = true := by kernel_rfl
def v147 : VC :=
 (.seq (.ops false [⟨some 2,.mov (.k (.int 0)),none⟩] (some [0])) (.seq (.ops false [⟨some 3,.mov (.k (.int 0)),none⟩] (some [0,3])) (.seq (.seq (.ops false [⟨some 6,.mov (.t 0),none⟩,
 ⟨some 7,.len (.t 6),none⟩,
 ⟨some 8,.mov (.k (.int 0)),none⟩] (some [3,6,7,8])) (.block 0 (.loop (.seq (.ops false [⟨some 9,.bin .lss (.t 8) (.t 7),none⟩] (some [3,6,7,8,9])) (.seq (.cond (.t 9) .skip (.exit 0)) (.seq (.block 1 (.seq (.ops false [⟨some 10,.idx 1 (.t 6) (.t 8),none⟩,
 ⟨some 11,.load 1 false (.t 10) [],none⟩,⟨some 5,.mov (.t 11),none⟩] (some [3,5,6,7,8])) (.seq (.ops false [⟨some 12,.mov (.t 5),none⟩,
 ⟨some 13,.mov (.t 3),none⟩,⟨some 14,.bin .neq (.t 12) (.t 13),none⟩] (some [3,5,6,7,8,14])) (.cond (.t 14) (.seq (.ops false [⟨some 15,.mov (.t 5),none⟩,
 ⟨some 2,.mov (.t 15),none⟩] (some [2])) .ret) .skip)))) (.ops false [⟨some 16,.bin .add (.t 8) (.k (.int 1)),none⟩,
 ⟨some 8,.mov (.t 16),none⟩] (some [3,6,7,8])))))))) (.seq (.ops false [⟨some 17,.mov (.t 3),none⟩,⟨some 2,.mov (.t 17),none⟩] (some [2])) .ret))))
theorem m147 : fmatch Tryz.prog Tryz.f147 1 [.tmp 2] v147 = true := by kernel_rfl
def v148 : VC :=
 (.seq (.ops false [⟨some 4,.mov (.k (.int 0)),none⟩] (some [0,1])) (.seq (.ops false [⟨some 7,.mov (.t 0),none⟩,⟨some 8,.call 162 [.t 7],none⟩,
 ⟨some 5,.mov (.t 8),none⟩] (some [0,1,5])) (.seq (.ops false [⟨some 9,.mov (.t 1),none⟩,⟨some 10,.call 162 [.t 9],none⟩,
 ⟨some 6,.mov (.t 10),none⟩] (some [0,1,5,6])) (.seq (.seq (.ops false [⟨some 11,.mov (.t 5),none⟩] (some [0,1,6,11])) (.cond (.t 11) (.seq (.seq (.ops false [⟨some 12,.mov (.t 6),none⟩] (some [12])) (.cond (.t 12) (.seq (.ops false [⟨some 4,.mov (.k (.int 0)),none⟩] (some [4])) .ret) .skip)) (.seq (.ops false [⟨some 4,.mov (.k (.int (-1))),none⟩] (some [4])) .ret)) .skip)) (.seq (.seq (.ops false [⟨some 13,.mov (.t 6),none⟩] (some [0,1,13])) (.cond (.t 13) (.seq (.ops false [⟨some 4,.mov (.k (.int 1)),none⟩] (some [4])) .ret) .skip)) (.seq (.seq (.ops false [⟨some 14,.mov (.t 0),none⟩,
 ⟨some 15,.mov (.t 1),none⟩,
 ⟨some 16,.bin .lss (.t 14) (.t 15),none⟩] (some [0,1,16])) (.cond (.t 16) (.seq (.ops false [⟨some 4,.mov (.k (.int (-1))),none⟩] (some [4])) .ret) .skip)) (.seq (.seq (.ops false [⟨some 17,.mov (.t 0),none⟩,
 ⟨some 18,.mov (.t 1),none⟩,
 ⟨some 19,.bin .gtr (.t 17) (.t 18),none⟩] (some [19])) (.cond (.t 19) (.seq (.ops false [⟨some 4,.mov (.k (.int 1)),none⟩] (some [4])) .ret) .skip)) (.seq (.ops false [⟨some 4,.mov (.k (.int 0)),none⟩] (some [4])) .ret))))))))
theorem m148 : fmatch Tryz.prog Tryz.f148 2 [.tmp 4] v148 = true := by kernel_rfl
def v150 : VC :=
 (.seq (.ops false [⟨some 2,.nils 2 5,none⟩,⟨some 3,.mov (.k (.int 0)),none⟩] (some [0])) (.seq (.ops true [⟨some 11,.mov (.t 0),none⟩,
 ⟨some 12,.nilck (.t 11),none⟩,⟨some 13,.fld 0 (.t 12),none⟩,⟨some 14,.fld 1 (.t 13),none⟩,⟨some 15,.load 1 false (.t 14) [],none⟩,⟨some 16,.len (.t 15),none⟩,
 ⟨some 17,.mov (.t 0),none⟩,⟨some 18,.nilck (.t 17),none⟩,⟨some 19,.fld 0 (.t 18),none⟩,⟨some 20,.fld 0 (.t 19),none⟩,⟨some 21,.load 1 false (.t 20) [],none⟩,
 ⟨some 22,.len (.t 21),none⟩,⟨some 23,.bin .add (.t 16) (.t 22),none⟩,⟨some 24,.bin .add (.t 23) (.k (.int 2)),none⟩,
 ⟨some 4,.mov (.t 24),none⟩] (some [0,4])) (.seq (.ops true [⟨some 25,.mov (.t 4),none⟩,⟨some 26,.makes 26 1 8 false [.int 0] (.t 25),none⟩,
 ⟨some 27,.mov (.t 4),none⟩,⟨some 28,.makes 28 5 40 true [.int 0,.int 0,.int 0,.int 0,.int 0] (.t 27),none⟩,⟨some 5,.alloc 5 [.sl 1 [] .full],none⟩,
 ⟨some 6,.alloc 6 [.sl 5 [] .full],none⟩,⟨none,.store 1 (.t 5) (.t 26) (some 5),none⟩,
 ⟨none,.store 1 (.t 6) (.t 28) (some 6),none⟩] (some [0,4,5,6])) (.seq (.seq (.ops false [⟨some 29,.load 1 false (.t 5) [],none⟩,⟨some 30,.len (.t 29),none⟩,
 ⟨some 31,.mov (.k (.int 0)),none⟩] (some [0,4,5,6,30,31])) (.block 0 (.loop (.seq (.ops false [⟨some 32,.bin .lss (.t 31) (.t 30),none⟩] (some [0,4,5,6,30,31,32])) (.seq (.cond (.t 32) .skip (.exit 0)) (.seq (.block 1 (.seq (.ops false [⟨some 33,.mov (.t 31),none⟩,
 ⟨some 7,.mov (.t 33),none⟩] (some [0,4,5,6,7,30,31])) (.ops false [⟨some 34,.load 1 false (.t 5) [],none⟩,⟨some 35,.mov (.t 7),none⟩,
 ⟨some 36,.idx 1 (.t 34) (.t 35),none⟩,
 ⟨none,.store 1 (.t 36) (.k (.int 1152921504606846976)) none,none⟩] (some [0,4,5,6,30,31])))) (.ops false [⟨some 37,.bin .add (.t 31) (.k (.int 1)),none⟩,
 ⟨some 31,.mov (.t 37),none⟩] (some [0,4,5,6,30,31])))))))) (.seq (.ops false [⟨some 38,.load 1 false (.t 5) [],none⟩,⟨some 39,.mov (.t 4),none⟩,
 ⟨some 40,.bin .sub (.t 39) (.k (.int 2)),none⟩,⟨some 41,.idx 1 (.t 38) (.t 40),none⟩,
 ⟨none,.store 1 (.t 41) (.k (.int 0)) none,none⟩] (some [0,4,5,6])) (.seq (.seq (.ops false [⟨some 42,.mov (.t 4),none⟩,
 ⟨some 43,.mov (.k (.int 0)),none⟩] (some [0,4,5,6,42,43])) (.block 2 (.loop (.seq (.ops false [⟨some 44,.bin .lss (.t 43) (.t 42),none⟩] (some [0,4,5,6,42,43,44])) (.seq (.cond (.t 44) .skip (.exit 2)) (.seq (.block 3 (.seq (.ops false [⟨some 45,.mov (.t 0),none⟩,
 ⟨some 46,.mkm 163 [.t 45],none⟩] (some [0,4,5,6,42,43,46])) (.block 4 (.range (.t 46) [47] (.opsN false [⟨some 8,.alloc 8 [.int 0,.int 0,.int 0,.int 0,.int 0],none⟩,
 ⟨none,.store 5 (.t 8) (.t 47) (some 8),none⟩] (some [5,6,8])) (.block 5 (.seq (.ops true [⟨some 48,.load 1 false (.t 5) [],none⟩,⟨some 49,.fld 0 (.t 8),none⟩,
 ⟨some 50,.load 1 false (.t 49) [],none⟩,⟨some 51,.idx 1 (.t 48) (.t 50),none⟩,⟨some 52,.load 1 false (.t 51) [],none⟩,
 ⟨some 53,.bin .lss (.t 52) (.k (.int 1152921504606846976)),none⟩,⟨some 54,.mov (.t 53),none⟩,⟨some 55,.load 1 false (.t 5) [],some (54,true)⟩,
 ⟨some 56,.fld 0 (.t 8),some (54,true)⟩,⟨some 57,.load 1 false (.t 56) [],some (54,true)⟩,⟨some 58,.idx 1 (.t 55) (.t 57),some (54,true)⟩,
 ⟨some 59,.load 1 false (.t 58) [],some (54,true)⟩,⟨some 60,.fld 2 (.t 8),some (54,true)⟩,⟨some 61,.load 1 false (.t 60) [],some (54,true)⟩,
 ⟨some 62,.bin .add (.t 59) (.t 61),some (54,true)⟩,⟨some 63,.load 1 false (.t 5) [],some (54,true)⟩,⟨some 64,.fld 1 (.t 8),some (54,true)⟩,
 ⟨some 65,.load 1 false (.t 64) [],some (54,true)⟩,⟨some 66,.idx 1 (.t 63) (.t 65),some (54,true)⟩,⟨some 67,.load 1 false (.t 66) [],some (54,true)⟩,
 ⟨some 68,.bin .lss (.t 62) (.t 67),some (54,true)⟩,
 ⟨some 69,.pick (.t 54) (.t 68) (.k (.bool false)),none⟩] (some [5,6,8,69])) (.cond (.t 69) (.ops true [⟨some 70,.load 1 false (.t 5) [26,28],none⟩,
 ⟨some 71,.fld 1 (.t 8),none⟩,⟨some 72,.load 1 false (.t 71) [26,28],none⟩,⟨some 73,.load 1 false (.t 6) [26,28],none⟩,⟨some 74,.fld 1 (.t 8),none⟩,
 ⟨some 75,.load 1 false (.t 74) [26,28],none⟩,⟨some 76,.load 1 false (.t 5) [26,28],none⟩,⟨some 77,.fld 0 (.t 8),none⟩,
 ⟨some 78,.load 1 false (.t 77) [26,28],none⟩,⟨some 79,.idx 1 (.t 76) (.t 78),none⟩,⟨some 80,.load 1 false (.t 79) [28],none⟩,⟨some 81,.fld 2 (.t 8),none⟩,
 ⟨some 82,.load 1 false (.t 81) [26,28],none⟩,⟨some 83,.bin .add (.t 80) (.t 82),none⟩,⟨some 84,.load 5 true (.t 8) [26,28],none⟩,
 ⟨some 85,.idx 1 (.t 70) (.t 72),none⟩,⟨none,.store 1 (.t 85) (.t 83) (some 26),none⟩,⟨some 86,.idx 5 (.t 73) (.t 75),none⟩,
 ⟨none,.store 5 (.t 86) (.t 84) (some 28),none⟩] (some [])) .skip))))))) (.ops false [⟨some 87,.bin .add (.t 43) (.k (.int 1)),none⟩,
 ⟨some 43,.mov (.t 87),none⟩] (some [0,4,5,6,42,43])))))))) (.seq (.ops false [⟨some 9,.nilsG 3 none 5 true,none⟩] (some [4,5,6,9])) (.seq (.seq (.ops false [⟨some 88,.load 1 false (.t 5) [],none⟩,
 ⟨some 89,.mov (.t 4),none⟩,⟨some 90,.bin .sub (.t 89) (.k (.int 1)),none⟩,⟨some 91,.idx 1 (.t 88) (.t 90),none⟩,⟨some 92,.load 1 false (.t 91) [],none⟩,
 ⟨some 93,.bin .lss (.t 92) (.k (.int 1152921504606846976)),none⟩] (some [4,5,6,9,93])) (.cond (.t 93) (.seq (.ops false [⟨some 94,.mov (.t 4),none⟩,
 ⟨some 95,.bin .sub (.t 94) (.k (.int 1)),none⟩,
 ⟨some 10,.mov (.t 95),none⟩] (some [4,5,6,9,10])) (.block 6 (.loop (.seq (.seq (.ops false [⟨some 96,.mov (.t 10),none⟩,⟨some 97,.mov (.t 4),none⟩,
 ⟨some 98,.bin .sub (.t 97) (.k (.int 2)),none⟩,
 ⟨some 99,.bin .neq (.t 96) (.t 98),none⟩] (some [4,5,6,9,10,99])) (.cond (.t 99) .skip (.exit 6))) (.seq (.block 7 (.ops false [⟨some 105,.mov (.t 9),none⟩,
 ⟨some 106,.load 1 false (.t 6) [],none⟩,⟨some 107,.mov (.t 10),none⟩,⟨some 108,.idx 5 (.t 106) (.t 107),none⟩,⟨some 109,.load 5 true (.t 108) [],none⟩,
 ⟨some 110,.bslice 5 [.t 109],none⟩,⟨some 111,.appG 3 none 5 40 true (.t 105) (.t 110),none⟩,
 ⟨some 9,.mov (.t 111),none⟩] (some [4,5,6,9,10]))) (.ops false [⟨some 100,.load 1 false (.t 6) [],none⟩,⟨some 101,.mov (.t 10),none⟩,
 ⟨some 102,.idx 5 (.t 100) (.t 101),none⟩,⟨some 103,.fld 0 (.t 102),none⟩,⟨some 104,.load 1 false (.t 103) [],none⟩,
 ⟨some 10,.mov (.t 104),none⟩] (some [4,5,6,9,10]))))))) .skip)) (.seq (.ops true [⟨some 112,.mov (.t 9),none⟩,⟨some 113,.load 1 false (.t 5) [],none⟩,
 ⟨some 114,.mov (.t 4),none⟩,⟨some 115,.bin .sub (.t 114) (.k (.int 1)),none⟩,⟨some 116,.idx 1 (.t 113) (.t 115),none⟩,⟨some 117,.load 1 false (.t 116) [],none⟩,
 ⟨some 2,.mov (.t 112),none⟩,⟨some 3,.mov (.t 117),none⟩] (some [2,3])) .ret)))))))))
theorem m150 : fmatch Tryz.prog Tryz.f150 1 [.tmp 2, .tmp 3] v150 = true := by kernel_rfl
end Go.Proofs.YtpangdaijhiohaaGreatDoor

namespace Go.Proofs.YtpangdaijhiohaaGreatDoor
open Go Go.V
set_option maxRecDepth 100000
def v151 : VC :=
 (.seq (.ops false [⟨some 5,.mov (.t 0),none⟩,⟨some 6,.len (.t 5),none⟩,⟨some 4,.mov (.t 6),none⟩] (some [0,1,4])) (.ops false [⟨some 7,.mov (.t 0),none⟩,
 ⟨some 8,.mov (.t 4),none⟩,⟨some 9,.mov (.t 4),none⟩,⟨some 10,.cvu (.t 9),none⟩,⟨some 11,.call 165 [.t 10],none⟩,⟨some 12,.mov (.t 1),none⟩,
 ⟨some 13,.calli 164 [.t 7,.k (.int 0),.t 8,.t 11,.t 12],none⟩] (some [])))
theorem m151 : fmatch Tryz.prog Tryz.f151 2 [] v151 = true := by kernel_rfl
def v152 : VC :=
 (.seq (.ops false [⟨some 4,.mov (.k (.int 0)),none⟩] (some [0,1])) (.seq (.ops false [⟨some 5,.mov (.t 1),none⟩,⟨some 6,.mov (.t 0),none⟩,
 ⟨some 7,.call 148 [.t 5,.t 6],none⟩,⟨some 4,.mov (.t 7),none⟩] (some [4])) .ret))
theorem m152 : fmatch Tryz.prog Tryz.f152 2 [.tmp 4] v152 = true := by kernel_rfl
def v153 : VC :=
 (.seq (.ops false [⟨some 2,.box 2 1 (.t 0),none⟩,⟨some 4,.mov (.k (.bool false)),none⟩] (some [1,2])) (.seq (.ops false [⟨some 5,.mov (.t 1),none⟩,
 ⟨some 6,.mkf 166 [.t 2],none⟩,⟨some 7,.call 119 [.t 5,.t 6],none⟩,⟨some 8,.not (.t 7),none⟩,⟨some 4,.mov (.t 8),none⟩] (some [4])) .ret))
theorem m153 : fmatch Tryz.prog Tryz.f153 2 [.tmp 4] v153 = true := by kernel_rfl
def v154 : VC :=
 (.seq (.ops false [⟨some 2,.mov (.k (.int 0)),none⟩] (some [0])) (.seq (.ops false [⟨some 3,.mov (.k (.int (-1))),none⟩] (some [0,3])) (.seq (.seq (.ops false [⟨some 6,.mov (.t 0),none⟩,
 ⟨some 7,.nilck (.t 6),none⟩,⟨some 8,.fld 0 (.t 7),none⟩,⟨some 9,.fld 0 (.t 8),none⟩,⟨some 10,.load 1 false (.t 9) [],none⟩,⟨some 11,.len (.t 10),none⟩,
 ⟨some 12,.mov (.k (.int 0)),none⟩] (some [0,3,10,11,12])) (.block 0 (.loop (.seq (.ops false [⟨some 13,.bin .lss (.t 12) (.t 11),none⟩] (some [0,3,10,11,12,13])) (.seq (.cond (.t 13) .skip (.exit 0)) (.seq (.block 1 (.seq (.ops false [⟨some 14,.mov (.t 12),none⟩,
 ⟨some 15,.idx 1 (.t 10) (.t 12),none⟩,⟨some 16,.load 1 false (.t 15) [],none⟩,⟨some 4,.mov (.t 14),none⟩,
 ⟨some 5,.mov (.t 16),none⟩] (some [0,3,4,5,10,11,12])) (.block 2 (.seq (.ops true [⟨some 18,.mov (.t 5),none⟩,⟨some 19,.bin .eql (.t 18) (.k (.int 0)),none⟩,
 ⟨some 20,.mov (.t 19),none⟩,⟨some 21,.mov (.t 0),some (20,false)⟩,⟨some 22,.mov (.t 4),some (20,false)⟩,⟨some 23,.nilck (.t 21),some (20,false)⟩,
 ⟨some 24,.fld 2 (.t 23),some (20,false)⟩,⟨some 25,.idxA 5 1 (.t 24) (.t 22),some (20,false)⟩,⟨some 26,.load 1 false (.t 25) [],some (20,false)⟩,
 ⟨some 27,.mov (.t 0),some (20,false)⟩,⟨some 28,.nilck (.t 27),some (20,false)⟩,⟨some 29,.fld 0 (.t 28),some (20,false)⟩,
 ⟨some 30,.fld 1 (.t 29),some (20,false)⟩,⟨some 31,.load 1 false (.t 30) [],some (20,false)⟩,⟨some 32,.mov (.t 4),some (20,false)⟩,
 ⟨some 33,.idx 1 (.t 31) (.t 32),some (20,false)⟩,⟨some 34,.load 1 false (.t 33) [],some (20,false)⟩,⟨some 35,.bin .geq (.t 26) (.t 34),some (20,false)⟩,
 ⟨some 36,.pick (.t 20) (.k (.bool true)) (.t 35),none⟩,
 ⟨some 17,.mov (.t 36),none⟩] (some [0,3,4,5,10,11,12,17])) (.cond (.t 17) .skip (.seq (.ops true [⟨some 38,.mov (.t 3),none⟩,
 ⟨some 39,.bin .lss (.t 38) (.k (.int 0)),none⟩,⟨some 40,.mov (.t 39),none⟩,⟨some 41,.mov (.t 5),some (40,false)⟩,⟨some 42,.mov (.t 0),some (40,false)⟩,
 ⟨some 43,.mov (.t 3),some (40,false)⟩,⟨some 44,.nilck (.t 42),some (40,false)⟩,⟨some 45,.fld 2 (.t 44),some (40,false)⟩,
 ⟨some 46,.idxA 5 1 (.t 45) (.t 43),some (40,false)⟩,⟨some 47,.load 1 false (.t 46) [],some (40,false)⟩,
 ⟨some 48,.bin .mul (.k (.int 2)) (.t 47),some (40,false)⟩,⟨some 49,.bin .add (.t 48) (.k (.int 1)),some (40,false)⟩,
 ⟨some 50,.bin .mul (.t 41) (.t 49),some (40,false)⟩,⟨some 51,.mov (.t 0),some (40,false)⟩,⟨some 52,.nilck (.t 51),some (40,false)⟩,
 ⟨some 53,.fld 0 (.t 52),some (40,false)⟩,⟨some 54,.fld 0 (.t 53),some (40,false)⟩,⟨some 55,.load 1 false (.t 54) [],some (40,false)⟩,
 ⟨some 56,.mov (.t 3),some (40,false)⟩,⟨some 57,.idx 1 (.t 55) (.t 56),some (40,false)⟩,⟨some 58,.load 1 false (.t 57) [],some (40,false)⟩,
 ⟨some 59,.mov (.t 0),some (40,false)⟩,⟨some 60,.mov (.t 4),some (40,false)⟩,⟨some 61,.nilck (.t 59),some (40,false)⟩,⟨some 62,.fld 2 (.t 61),some (40,false)⟩,
 ⟨some 63,.idxA 5 1 (.t 62) (.t 60),some (40,false)⟩,⟨some 64,.load 1 false (.t 63) [],some (40,false)⟩,
 ⟨some 65,.bin .mul (.k (.int 2)) (.t 64),some (40,false)⟩,⟨some 66,.bin .add (.t 65) (.k (.int 1)),some (40,false)⟩,
 ⟨some 67,.bin .mul (.t 58) (.t 66),some (40,false)⟩,⟨some 68,.bin .gtr (.t 50) (.t 67),some (40,false)⟩,⟨some 69,.pick (.t 40) (.k (.bool true)) (.t 68),none⟩,
 ⟨some 37,.mov (.t 69),none⟩] (some [0,3,4,10,11,12,37])) (.cond (.t 37) (.ops false [⟨some 70,.mov (.t 4),none⟩,
 ⟨some 3,.mov (.t 70),none⟩] (some [0,3,10,11,12])) .skip))))))) (.ops false [⟨some 71,.bin .add (.t 12) (.k (.int 1)),none⟩,
 ⟨some 12,.mov (.t 71),none⟩] (some [0,3,10,11,12])))))))) (.seq (.ops false [⟨some 72,.mov (.t 3),none⟩,⟨some 2,.mov (.t 72),none⟩] (some [2])) .ret))))
theorem m154 : fmatch Tryz.prog Tryz.f154 1 [.tmp 2] v154 = true := by kernel_rfl
def v161 : VC :=
 (.seq (.ops false [⟨some 4,.mov (.k (.int 0)),none⟩] (some [0,1])) (.seq (.seq (.ops false [⟨some 6,.mov (.t 0),none⟩,⟨some 7,.len (.t 6),none⟩,
 ⟨some 8,.mov (.k (.int 0)),none⟩] (some [0,1,7,8])) (.block 0 (.loop (.seq (.ops false [⟨some 9,.bin .lss (.t 8) (.t 7),none⟩] (some [0,1,7,8,9])) (.seq (.cond (.t 9) .skip (.exit 0)) (.seq (.block 1 (.seq (.ops false [⟨some 10,.mov (.t 8),none⟩,
 ⟨some 5,.mov (.t 10),none⟩] (some [0,1,5,7,8])) (.seq (.ops false [⟨some 11,.mov (.t 1),none⟩,⟨some 12,.mov (.t 0),none⟩,⟨some 13,.mov (.t 5),none⟩,
 ⟨some 14,.idx 2 (.t 12) (.t 13),none⟩,⟨some 15,.load 2 true (.t 14) [],none⟩,
 ⟨some 16,.callv (.t 11) [.t 15],none⟩] (some [0,1,5,7,8,16])) (.cond (.t 16) (.seq (.ops false [⟨some 17,.mov (.t 5),none⟩,
 ⟨some 4,.mov (.t 17),none⟩] (some [4])) .ret) .skip)))) (.ops false [⟨some 18,.bin .add (.t 8) (.k (.int 1)),none⟩,
 ⟨some 8,.mov (.t 18),none⟩] (some [0,1,7,8])))))))) (.seq (.ops false [⟨some 4,.mov (.k (.int (-1))),none⟩] (some [4])) .ret)))
theorem m161 : fmatch Tryz.prog Tryz.f161 2 [.tmp 4] v161 = true := by kernel_rfl
def v162 : VC :=
 (.seq (.ops false [⟨some 2,.mov (.k (.bool false)),none⟩] (some [0])) (.seq (.ops false [⟨some 3,.mov (.t 0),none⟩,⟨some 4,.mov (.t 0),none⟩,
 ⟨some 5,.bin .neq (.t 3) (.t 4),none⟩,⟨some 2,.mov (.t 5),none⟩] (some [2])) .ret))
theorem m162 : fmatch Tryz.prog Tryz.f162 1 [.tmp 2] v162 = true := by kernel_rfl
def v163 : VC :=
 (.seq (.ops false [⟨some 2,.box 4002 1 (.t 0),none⟩] (some [1,2])) (.seq (.ops true [⟨some 17,.load 1 false (.t 2) [],none⟩,⟨some 18,.nilck (.t 17),none⟩,
 ⟨some 19,.fld 0 (.t 18),none⟩,⟨some 20,.load 3 true (.t 19) [],none⟩,⟨some 21,.load 1 false (.t 2) [],none⟩,⟨some 22,.nilck (.t 21),none⟩,
 ⟨some 23,.fld 6 (.t 22),none⟩,⟨some 24,.load 1 false (.t 23) [],none⟩,⟨some 25,.call 126 [.t 20,.t 24],none⟩,⟨some 16,.mov (.t 25),none⟩,
 ⟨some 26,.ext (.t 16) 0,none⟩,⟨some 27,.ext (.t 16) 1,none⟩,⟨some 4,.mov (.t 26),none⟩,
 ⟨some 5,.mov (.t 27),none⟩] (some [1,2,4,5])) (.seq (.ops false [⟨some 28,.load 1 false (.t 2) [],none⟩,⟨some 29,.nilck (.t 28),none⟩,
 ⟨some 30,.fld 0 (.t 29),none⟩,⟨some 31,.fld 1 (.t 30),none⟩,⟨some 32,.load 1 false (.t 31) [],none⟩,⟨some 33,.len (.t 32),none⟩,
 ⟨some 6,.mov (.t 33),none⟩] (some [1,2,4,5,6])) (.seq (.ops false [⟨some 34,.mov (.t 6),none⟩,⟨some 35,.load 1 false (.t 2) [],none⟩,
 ⟨some 36,.nilck (.t 35),none⟩,⟨some 37,.fld 0 (.t 36),none⟩,⟨some 38,.fld 0 (.t 37),none⟩,⟨some 39,.load 1 false (.t 38) [],none⟩,⟨some 40,.len (.t 39),none⟩,
 ⟨some 41,.bin .add (.t 34) (.t 40),none⟩,⟨some 7,.mov (.t 41),none⟩] (some [1,2,4,5,6,7])) (.seq (.ops false [⟨some 42,.mov (.t 7),none⟩,
 ⟨some 43,.bin .add (.t 42) (.k (.int 1)),none⟩,⟨some 8,.mov (.t 43),none⟩] (some [1,2,4,5,6,7,8])) (.seq (.ops false [⟨some 44,.mkf 177 [.t 2],none⟩,
 ⟨some 9,.mov (.t 44),none⟩] (some [1,2,4,5,6,7,8,9])) (.seq (.seq (.ops false [⟨some 45,.mov (.t 5),none⟩,⟨some 46,.len (.t 45),none⟩,
 ⟨some 47,.mov (.k (.int 0)),none⟩] (some [1,2,4,6,7,8,9,45,46,47])) (.block 0 (.loop (.seq (.ops false [⟨some 48,.bin .lss (.t 47) (.t 46),none⟩] (some [1,2,4,6,7,8,9,45,46,47,48])) (.seq (.cond (.t 48) .skip (.exit 0)) (.seq (.block 1 (.seq (.ops false [⟨some 49,.mov (.t 47),none⟩,
 ⟨some 50,.idx 1 (.t 45) (.t 47),none⟩,⟨some 51,.load 1 false (.t 50) [],none⟩,⟨some 10,.mov (.t 49),none⟩,
 ⟨some 11,.mov (.t 51),none⟩] (some [1,2,4,6,7,8,9,10,11,45,46,47])) (.seq (.ops false [⟨some 52,.mov (.t 11),none⟩,
 ⟨some 53,.bin .gtr (.t 52) (.k (.int 0)),none⟩,⟨some 54,.mov (.t 53),none⟩,⟨some 55,.mov (.t 1),some (54,true)⟩,⟨some 56,.mov (.t 7),some (54,true)⟩,
 ⟨some 57,.mov (.t 10),some (54,true)⟩,⟨some 58,.mov (.t 9),some (54,true)⟩,⟨some 59,.mov (.t 10),some (54,true)⟩,
 ⟨some 60,.load 1 false (.t 2) [],some (54,true)⟩,⟨some 61,.nilck (.t 60),some (54,true)⟩,⟨some 62,.fld 3 (.t 61),some (54,true)⟩,
 ⟨some 63,.fld 1 (.t 62),some (54,true)⟩,⟨some 64,.load 1 false (.t 63) [],some (54,true)⟩,⟨some 65,.bin .eql (.t 59) (.t 64),some (54,true)⟩,
 ⟨some 66,.callv (.t 58) [.t 65],some (54,true)⟩,⟨some 67,.neg (.t 66),some (54,true)⟩,
 ⟨some 68,.build [.int 0,.int 0,.int 0,.int 0,.int 0] [(0,1,.t 56),(1,1,.t 57),(2,1,.t 67),(3,1,.k (.int (-1))),(4,1,.k (.int 0))],some (54,true)⟩,
 ⟨some 69,.yield (.t 55) [.t 68],some (54,true)⟩,⟨some 70,.not (.t 69),some (54,true)⟩,⟨some 71,.pick (.t 54) (.t 70) (.k (.bool false)),none⟩,
 ⟨some 72,.mov (.t 71),none⟩,⟨some 73,.mov (.t 11),some (72,false)⟩,⟨some 74,.load 1 false (.t 2) [],some (72,false)⟩,⟨some 75,.nilck (.t 74),some (72,false)⟩,
 ⟨some 76,.fld 0 (.t 75),some (72,false)⟩,⟨some 77,.fld 1 (.t 76),some (72,false)⟩,⟨some 78,.load 1 false (.t 77) [],some (72,false)⟩,
 ⟨some 79,.mov (.t 10),some (72,false)⟩,⟨some 80,.idx 1 (.t 78) (.t 79),some (72,false)⟩,⟨some 81,.load 1 false (.t 80) [],some (72,false)⟩,
 ⟨some 82,.bin .lss (.t 73) (.t 81),some (72,false)⟩,⟨some 83,.mov (.t 82),some (72,false)⟩,⟨some 84,.mov (.t 1),some (83,true)⟩,
 ⟨some 85,.mov (.t 10),some (83,true)⟩,⟨some 86,.mov (.t 7),some (83,true)⟩,⟨some 87,.mov (.t 9),some (83,true)⟩,⟨some 88,.mov (.t 10),some (83,true)⟩,
 ⟨some 89,.load 1 false (.t 2) [],some (83,true)⟩,⟨some 90,.nilck (.t 89),some (83,true)⟩,⟨some 91,.fld 3 (.t 90),some (83,true)⟩,
 ⟨some 92,.fld 1 (.t 91),some (83,true)⟩,⟨some 93,.load 1 false (.t 92) [],some (83,true)⟩,⟨some 94,.bin .eql (.t 88) (.t 93),some (83,true)⟩,
 ⟨some 95,.callv (.t 87) [.t 94],some (83,true)⟩,
 ⟨some 96,.build [.int 0,.int 0,.int 0,.int 0,.int 0] [(0,1,.t 85),(1,1,.t 86),(2,1,.t 95),(3,1,.k (.int (-1))),(4,1,.k (.int 0))],some (83,true)⟩,
 ⟨some 97,.yield (.t 84) [.t 96],some (83,true)⟩,⟨some 98,.not (.t 97),some (83,true)⟩,⟨some 99,.pick (.t 83) (.t 98) (.k (.bool false)),some (72,false)⟩,
 ⟨some 100,.pick (.t 72) (.k (.bool true)) (.t 99),none⟩] (some [1,2,4,6,7,8,9,45,46,47,100])) (.cond (.t 100) .ret .skip)))) (.ops false [⟨some 101,.bin .add (.t 47) (.k (.int 1)),none⟩,
 ⟨some 47,.mov (.t 101),none⟩] (some [1,2,4,6,7,8,9,45,46,47])))))))) (.seq (.seq (.ops false [⟨some 102,.mov (.t 4),none⟩,⟨some 103,.len (.t 102),none⟩,
 ⟨some 104,.mov (.k (.int 0)),none⟩] (some [1,2,6,8,9,102,103,104])) (.block 2 (.loop (.seq (.ops false [⟨some 105,.bin .lss (.t 104) (.t 103),none⟩] (some [1,2,6,8,9,102,103,104,105])) (.seq (.cond (.t 105) .skip (.exit 2)) (.seq (.block 3 (.seq (.ops false [⟨some 106,.mov (.t 104),none⟩,
 ⟨some 107,.idx 1 (.t 102) (.t 104),none⟩,⟨some 108,.load 1 false (.t 107) [],none⟩,⟨some 12,.mov (.t 106),none⟩,
 ⟨some 13,.mov (.t 108),none⟩] (some [1,2,6,8,9,12,13,102,103,104])) (.seq (.opsB2 [⟨some 109,.mov (.t 13),none⟩,
 ⟨some 110,.bin .gtr (.t 109) (.k (.int 0)),none⟩,⟨some 111,.mov (.t 110),none⟩,⟨some 112,.mov (.t 1),some (111,true)⟩,⟨some 113,.mov (.t 6),some (111,true)⟩,
 ⟨some 114,.mov (.t 12),some (111,true)⟩,⟨some 115,.bin .add (.t 113) (.t 114),some (111,true)⟩,⟨some 116,.mov (.t 8),some (111,true)⟩,
 ⟨some 117,.mov (.t 13),some (111,true)⟩,⟨some 118,.bin .sub (.t 117) (.k (.int 1)),some (111,true)⟩,⟨some 119,.call 178 [.t 118],some (111,true)⟩,
 ⟨some 120,.mov (.t 13),some (111,true)⟩,⟨some 121,.call 178 [.t 120],some (111,true)⟩,⟨some 122,.bin .sub (.t 119) (.t 121),some (111,true)⟩,
 ⟨some 123,.mov (.t 9),some (111,true)⟩,⟨some 124,.mov (.t 12),some (111,true)⟩,⟨some 125,.load 1 false (.t 2) [],some (111,true)⟩,
 ⟨some 126,.nilck (.t 125),some (111,true)⟩,⟨some 127,.fld 3 (.t 126),some (111,true)⟩,⟨some 128,.fld 0 (.t 127),some (111,true)⟩,
 ⟨some 129,.load 1 false (.t 128) [],some (111,true)⟩,⟨some 130,.bin .eql (.t 124) (.t 129),some (111,true)⟩,⟨some 131,.callv (.t 123) [.t 130],some (111,true)⟩,
 ⟨some 132,.bin .sub (.t 122) (.t 131),some (111,true)⟩,
 ⟨some 133,.build [.int 0,.int 0,.int 0,.int 0,.int 0] [(0,1,.t 115),(1,1,.t 116),(2,1,.t 132),(3,1,.k (.int (-1))),(4,1,.k (.int 0))],some (111,true)⟩] ⟨some 134,.yield (.t 112) [.t 133],some (111,true)⟩ [⟨some 135,.not (.t 134),some (111,true)⟩,
 ⟨some 136,.pick (.t 111) (.t 135) (.k (.bool false)),none⟩,⟨some 137,.mov (.t 136),none⟩,⟨some 138,.mov (.t 13),some (137,false)⟩,
 ⟨some 139,.load 1 false (.t 2) [],some (137,false)⟩,⟨some 140,.nilck (.t 139),some (137,false)⟩,⟨some 141,.fld 0 (.t 140),some (137,false)⟩,
 ⟨some 142,.fld 0 (.t 141),some (137,false)⟩,⟨some 143,.load 1 false (.t 142) [],some (137,false)⟩,⟨some 144,.mov (.t 12),some (137,false)⟩,
 ⟨some 145,.idx 1 (.t 143) (.t 144),some (137,false)⟩,⟨some 146,.load 1 false (.t 145) [],some (137,false)⟩,
 ⟨some 147,.bin .lss (.t 138) (.t 146),some (137,false)⟩,⟨some 148,.mov (.t 147),some (137,false)⟩,⟨some 149,.mov (.t 1),some (148,true)⟩,
 ⟨some 150,.mov (.t 8),some (148,true)⟩,⟨some 151,.mov (.t 6),some (148,true)⟩,⟨some 152,.mov (.t 12),some (148,true)⟩,
 ⟨some 153,.bin .add (.t 151) (.t 152),some (148,true)⟩,⟨some 154,.mov (.t 13),some (148,true)⟩,⟨some 155,.bin .add (.t 154) (.k (.int 1)),some (148,true)⟩,
 ⟨some 156,.call 178 [.t 155],some (148,true)⟩,⟨some 157,.mov (.t 13),some (148,true)⟩,⟨some 158,.call 178 [.t 157],some (148,true)⟩,
 ⟨some 159,.bin .sub (.t 156) (.t 158),some (148,true)⟩,⟨some 160,.mov (.t 9),some (148,true)⟩,⟨some 161,.mov (.t 12),some (148,true)⟩,
 ⟨some 162,.load 1 false (.t 2) [],some (148,true)⟩,⟨some 163,.nilck (.t 162),some (148,true)⟩,⟨some 164,.fld 3 (.t 163),some (148,true)⟩,
 ⟨some 165,.fld 0 (.t 164),some (148,true)⟩,⟨some 166,.load 1 false (.t 165) [],some (148,true)⟩,⟨some 167,.bin .eql (.t 161) (.t 166),some (148,true)⟩,
 ⟨some 168,.callv (.t 160) [.t 167],some (148,true)⟩,⟨some 169,.bin .add (.t 159) (.t 168),some (148,true)⟩,
 ⟨some 170,.build [.int 0,.int 0,.int 0,.int 0,.int 0] [(0,1,.t 150),(1,1,.t 153),(2,1,.t 169),(3,1,.k (.int (-1))),(4,1,.k (.int 0))],some (148,true)⟩] ⟨some 171,.yield (.t 149) [.t 170],some (148,true)⟩ [⟨some 172,.not (.t 171),some (148,true)⟩,
 ⟨some 173,.pick (.t 148) (.t 172) (.k (.bool false)),some (137,false)⟩,
 ⟨some 174,.pick (.t 137) (.k (.bool true)) (.t 173),none⟩] (some [1,2,6,8,9,102,103,104,174])) (.cond (.t 174) .ret .skip)))) (.ops false [⟨some 175,.bin .add (.t 104) (.k (.int 1)),none⟩,
 ⟨some 104,.mov (.t 175),none⟩] (some [1,2,6,8,9,102,103,104])))))))) (.seq (.ops false [⟨some 176,.load 1 false (.t 2) [],none⟩,⟨some 177,.nilck (.t 176),none⟩,
 ⟨some 178,.fld 0 (.t 177),none⟩,⟨some 179,.fld 2 (.t 178),none⟩,⟨some 180,.load 1 false (.t 179) [],none⟩,⟨some 181,.len (.t 180),none⟩,
 ⟨some 182,.mov (.k (.int 0)),none⟩] (some [1,2,6,180,181,182])) (.block 4 (.loop (.seq (.ops false [⟨some 183,.bin .lss (.t 182) (.t 181),none⟩] (some [1,2,6,180,181,182,183])) (.seq (.cond (.t 183) .skip (.exit 4)) (.seq (.block 5 (.seq (.ops false [⟨some 184,.mov (.t 182),none⟩,
 ⟨some 185,.idx 2 (.t 180) (.t 182),none⟩,⟨some 186,.load 2 true (.t 185) [],none⟩,⟨some 15,.alloc 4015 [.int 0,.int 0],none⟩,⟨some 14,.mov (.t 184),none⟩,
 ⟨none,.store 2 (.t 15) (.t 186) (some 4015),none⟩] (some [1,2,6,14,15,180,181,182])) (.seq (.ops false [⟨some 187,.mov (.t 1),none⟩,
 ⟨some 188,.fld 1 (.t 15),none⟩,⟨some 189,.load 1 false (.t 188) [],none⟩,⟨some 190,.mov (.t 6),none⟩,⟨some 191,.fld 0 (.t 15),none⟩,
 ⟨some 192,.load 1 false (.t 191) [],none⟩,⟨some 193,.bin .add (.t 190) (.t 192),none⟩,⟨some 194,.mov (.t 14),none⟩,
 ⟨some 195,.build [.int 0,.int 0,.int 0,.int 0,.int 0] [(0,1,.t 189),(1,1,.t 193),(2,1,.k (.int 0)),(3,1,.t 194),(4,1,.k (.int 1))],none⟩,
 ⟨some 196,.yield (.t 187) [.t 195],none⟩,⟨some 197,.not (.t 196),none⟩,⟨some 198,.mov (.t 197),none⟩,⟨some 199,.load 1 false (.t 2) [],some (198,false)⟩,
 ⟨some 200,.nilck (.t 199),some (198,false)⟩,⟨some 201,.fld 6 (.t 200),some (198,false)⟩,⟨some 202,.load 1 false (.t 201) [],some (198,false)⟩,
 ⟨some 203,.mov (.t 14),some (198,false)⟩,⟨some 204,.idx 1 (.t 202) (.t 203),some (198,false)⟩,⟨some 205,.load 1 false (.t 204) [],some (198,false)⟩,
 ⟨some 206,.bin .gtr (.t 205) (.k (.int 0)),some (198,false)⟩,⟨some 207,.mov (.t 206),some (198,false)⟩,⟨some 208,.mov (.t 1),some (207,true)⟩,
 ⟨some 209,.mov (.t 6),some (207,true)⟩,⟨some 210,.fld 0 (.t 15),some (207,true)⟩,⟨some 211,.load 1 false (.t 210) [],some (207,true)⟩,
 ⟨some 212,.bin .add (.t 209) (.t 211),some (207,true)⟩,⟨some 213,.fld 1 (.t 15),some (207,true)⟩,⟨some 214,.load 1 false (.t 213) [],some (207,true)⟩,
 ⟨some 215,.mov (.t 14),some (207,true)⟩,
 ⟨some 216,.build [.int 0,.int 0,.int 0,.int 0,.int 0] [(0,1,.t 212),(1,1,.t 214),(2,1,.k (.int 0)),(3,1,.t 215),(4,1,.k (.int (-1)))],some (207,true)⟩,
 ⟨some 217,.yield (.t 208) [.t 216],some (207,true)⟩,⟨some 218,.not (.t 217),some (207,true)⟩,
 ⟨some 219,.pick (.t 207) (.t 218) (.k (.bool false)),some (198,false)⟩,
 ⟨some 220,.pick (.t 198) (.k (.bool true)) (.t 219),none⟩] (some [1,2,6,180,181,182,220])) (.cond (.t 220) .ret .skip)))) (.ops false [⟨some 221,.bin .add (.t 182) (.k (.int 1)),none⟩,
 ⟨some 182,.mov (.t 221),none⟩] (some [1,2,6,180,181,182]))))))))))))))))
theorem m163 : fmatch Tryz.prog Tryz.f163 2 [] v163 = true := by kernel_rfl
def v164 : VC :=
 (.seq (.ops false [⟨some 10,.mov (.k (.bool true)),none⟩] (some [0,1,2,3,4,10])) (.seq (.ops false [⟨some 11,.mov (.k (.bool true)),none⟩] (some [0,1,2,3,4,10,11])) (.block 0 (.loop (.block 1 (.seq (.ops false [⟨some 21,.mov (.t 2),none⟩,
 ⟨some 22,.mov (.t 1),none⟩,⟨some 23,.bin .sub (.t 21) (.t 22),none⟩,
 ⟨some 12,.mov (.t 23),none⟩] (some [0,1,2,3,4,10,11,12])) (.seq (.seq (.ops false [⟨some 24,.mov (.t 12),none⟩,
 ⟨some 25,.bin .leq (.t 24) (.k (.int 12)),none⟩] (some [0,1,2,3,4,10,11,12,25])) (.cond (.t 25) (.seq (.ops false [⟨some 26,.mov (.t 0),none⟩,
 ⟨some 27,.mov (.t 1),none⟩,⟨some 28,.mov (.t 2),none⟩,⟨some 29,.mov (.t 4),none⟩,
 ⟨some 30,.calli 179 [.t 26,.t 27,.t 28,.t 29],none⟩] (some [])) .ret) .skip)) (.seq (.seq (.ops false [⟨some 31,.mov (.t 3),none⟩,
 ⟨some 32,.bin .eql (.t 31) (.k (.int 0)),none⟩] (some [0,1,2,3,4,10,11,12,32])) (.cond (.t 32) (.seq (.ops false [⟨some 33,.mov (.t 0),none⟩,
 ⟨some 34,.mov (.t 1),none⟩,⟨some 35,.mov (.t 2),none⟩,⟨some 36,.mov (.t 4),none⟩,
 ⟨some 37,.call 180 [.t 33,.t 34,.t 35,.t 36],none⟩] (some [])) .ret) .skip)) (.seq (.seq (.ops false [⟨some 38,.mov (.t 10),none⟩,
 ⟨some 39,.not (.t 38),none⟩] (some [0,1,2,3,4,10,11,12,39])) (.cond (.t 39) (.seq (.ops false [⟨some 40,.mov (.t 0),none⟩,⟨some 41,.mov (.t 1),none⟩,
 ⟨some 42,.mov (.t 2),none⟩,⟨some 43,.mov (.t 4),none⟩,
 ⟨some 44,.call 181 [.t 40,.t 41,.t 42,.t 43],none⟩] (some [0,1,2,3,4,10,11,12])) (.ops false [⟨some 45,.mov (.t 3),none⟩,
 ⟨some 46,.bin .sub (.t 45) (.k (.int 1)),none⟩,⟨some 3,.mov (.t 46),none⟩] (some [0,1,2,3,4,10,11,12]))) .skip)) (.seq (.ops false [⟨some 48,.mov (.t 0),none⟩,
 ⟨some 49,.mov (.t 1),none⟩,⟨some 50,.mov (.t 2),none⟩,⟨some 51,.mov (.t 4),none⟩,⟨some 52,.call 182 [.t 48,.t 49,.t 50,.t 51],none⟩,⟨some 47,.mov (.t 52),none⟩,
 ⟨some 53,.ext (.t 47) 0,none⟩,⟨some 54,.ext (.t 47) 1,none⟩,⟨some 13,.mov (.t 53),none⟩,
 ⟨some 14,.mov (.t 54),none⟩] (some [0,1,2,3,4,10,11,12,13,14])) (.seq (.seq (.ops false [⟨some 55,.mov (.t 14),none⟩,
 ⟨some 56,.bin .eql (.t 55) (.k (.int 2)),none⟩] (some [0,1,2,3,4,10,11,12,13,14,56])) (.cond (.t 56) (.seq (.ops false [⟨some 57,.mov (.t 0),none⟩,
 ⟨some 58,.mov (.t 1),none⟩,⟨some 59,.mov (.t 2),none⟩,⟨some 60,.mov (.t 4),none⟩,
 ⟨some 61,.call 183 [.t 57,.t 58,.t 59,.t 60],none⟩] (some [0,1,2,3,4,10,11,12,13])) (.seq (.ops false [⟨some 62,.mov (.t 2),none⟩,
 ⟨some 63,.bin .sub (.t 62) (.k (.int 1)),none⟩,⟨some 64,.mov (.t 13),none⟩,⟨some 65,.mov (.t 1),none⟩,⟨some 66,.bin .sub (.t 64) (.t 65),none⟩,
 ⟨some 67,.bin .sub (.t 63) (.t 66),none⟩,
 ⟨some 13,.mov (.t 67),none⟩] (some [0,1,2,3,4,10,11,12,13])) (.ops false [⟨some 14,.mov (.k (.int 1)),none⟩] (some [0,1,2,3,4,10,11,12,13,14])))) .skip)) (.seq (.seq (.ops false [⟨some 68,.mov (.t 10),none⟩,
 ⟨some 69,.mov (.t 68),none⟩,⟨some 70,.mov (.t 11),some (69,true)⟩,⟨some 71,.pick (.t 69) (.t 70) (.k (.bool false)),none⟩,⟨some 72,.mov (.t 71),none⟩,
 ⟨some 73,.mov (.t 14),some (72,true)⟩,⟨some 74,.bin .eql (.t 73) (.k (.int 1)),some (72,true)⟩,
 ⟨some 75,.pick (.t 72) (.t 74) (.k (.bool false)),none⟩] (some [0,1,2,3,4,10,11,12,13,75])) (.cond (.t 75) (.seq (.ops false [⟨some 76,.mov (.t 0),none⟩,
 ⟨some 77,.mov (.t 1),none⟩,⟨some 78,.mov (.t 2),none⟩,⟨some 79,.mov (.t 4),none⟩,
 ⟨some 80,.call 184 [.t 76,.t 77,.t 78,.t 79],none⟩] (some [0,1,2,3,4,10,11,12,13,80])) (.cond (.t 80) .ret .skip)) .skip)) (.seq (.seq (.ops true [⟨some 81,.mov (.t 1),none⟩,
 ⟨some 82,.bin .gtr (.t 81) (.k (.int 0)),none⟩,⟨some 83,.mov (.t 82),none⟩,⟨some 84,.mov (.t 4),some (83,true)⟩,⟨some 85,.mov (.t 0),some (83,true)⟩,
 ⟨some 86,.mov (.t 1),some (83,true)⟩,⟨some 87,.bin .sub (.t 86) (.k (.int 1)),some (83,true)⟩,⟨some 88,.idx 1 (.t 85) (.t 87),some (83,true)⟩,
 ⟨some 89,.load 1 false (.t 88) [],some (83,true)⟩,⟨some 90,.mov (.t 0),some (83,true)⟩,⟨some 91,.mov (.t 13),some (83,true)⟩,
 ⟨some 92,.idx 1 (.t 90) (.t 91),some (83,true)⟩,⟨some 93,.load 1 false (.t 92) [],some (83,true)⟩,⟨some 94,.callv (.t 84) [.t 89,.t 93],some (83,true)⟩,
 ⟨some 95,.bin .lss (.t 94) (.k (.int 0)),some (83,true)⟩,⟨some 96,.not (.t 95),some (83,true)⟩,
 ⟨some 97,.pick (.t 83) (.t 96) (.k (.bool false)),none⟩] (some [0,1,2,3,4,10,11,12,13,97])) (.cond (.t 97) (.seq (.ops false [⟨some 98,.mov (.t 0),none⟩,
 ⟨some 99,.mov (.t 1),none⟩,⟨some 100,.mov (.t 2),none⟩,⟨some 101,.mov (.t 13),none⟩,⟨some 102,.mov (.t 4),none⟩,
 ⟨some 103,.call 185 [.t 98,.t 99,.t 100,.t 101,.t 102],none⟩,
 ⟨some 15,.mov (.t 103),none⟩] (some [0,2,3,4,10,11,15])) (.seq (.ops false [⟨some 104,.mov (.t 15),none⟩,
 ⟨some 1,.mov (.t 104),none⟩] (some [0,1,2,3,4,10,11])) (.exit 1))) .skip)) (.seq (.ops false [⟨some 106,.mov (.t 0),none⟩,⟨some 107,.mov (.t 1),none⟩,
 ⟨some 108,.mov (.t 2),none⟩,⟨some 109,.mov (.t 13),none⟩,⟨some 110,.mov (.t 4),none⟩,⟨some 111,.call 186 [.t 106,.t 107,.t 108,.t 109,.t 110],none⟩,
 ⟨some 105,.mov (.t 111),none⟩,⟨some 112,.ext (.t 105) 0,none⟩,⟨some 113,.ext (.t 105) 1,none⟩,⟨some 16,.mov (.t 112),none⟩,
 ⟨some 17,.mov (.t 113),none⟩] (some [0,1,2,3,4,12,16,17])) (.seq (.ops false [⟨some 114,.mov (.t 17),none⟩,
 ⟨some 11,.mov (.t 114),none⟩] (some [0,1,2,3,4,11,12,16])) (.seq (.ops false [⟨some 115,.mov (.t 16),none⟩,⟨some 116,.mov (.t 1),none⟩,
 ⟨some 117,.bin .sub (.t 115) (.t 116),none⟩,⟨some 118,.mov (.t 2),none⟩,⟨some 119,.mov (.t 16),none⟩,⟨some 120,.bin .sub (.t 118) (.t 119),none⟩,
 ⟨some 18,.mov (.t 117),none⟩,⟨some 19,.mov (.t 120),none⟩] (some [0,1,2,3,4,11,12,16,18,19])) (.seq (.ops false [⟨some 121,.mov (.t 12),none⟩,
 ⟨some 122,.bin .quo (.t 121) (.k (.int 8)),none⟩,
 ⟨some 20,.mov (.t 122),none⟩] (some [0,1,2,3,4,11,16,18,19,20])) (.seq (.ops false [⟨some 123,.mov (.t 18),none⟩,⟨some 124,.mov (.t 19),none⟩,
 ⟨some 125,.bin .lss (.t 123) (.t 124),none⟩] (some [0,1,2,3,4,11,16,18,19,20,125])) (.cond (.t 125) (.seq (.ops false [⟨some 126,.mov (.t 18),none⟩,
 ⟨some 127,.mov (.t 20),none⟩,⟨some 128,.bin .geq (.t 126) (.t 127),none⟩,
 ⟨some 10,.mov (.t 128),none⟩] (some [0,1,2,3,4,10,11,16])) (.seq (.ops false [⟨some 129,.mov (.t 0),none⟩,⟨some 130,.mov (.t 1),none⟩,
 ⟨some 131,.mov (.t 16),none⟩,⟨some 132,.mov (.t 3),none⟩,⟨some 133,.mov (.t 4),none⟩,
 ⟨some 134,.call 164 [.t 129,.t 130,.t 131,.t 132,.t 133],none⟩] (some [0,2,3,4,10,11,16])) (.ops false [⟨some 135,.mov (.t 16),none⟩,
 ⟨some 136,.bin .add (.t 135) (.k (.int 1)),none⟩,⟨some 1,.mov (.t 136),none⟩] (some [0,1,2,3,4,10,11])))) (.seq (.ops false [⟨some 137,.mov (.t 19),none⟩,
 ⟨some 138,.mov (.t 20),none⟩,⟨some 139,.bin .geq (.t 137) (.t 138),none⟩,
 ⟨some 10,.mov (.t 139),none⟩] (some [0,1,2,3,4,10,11,16])) (.seq (.ops false [⟨some 140,.mov (.t 0),none⟩,⟨some 141,.mov (.t 16),none⟩,
 ⟨some 142,.bin .add (.t 141) (.k (.int 1)),none⟩,⟨some 143,.mov (.t 2),none⟩,⟨some 144,.mov (.t 3),none⟩,⟨some 145,.mov (.t 4),none⟩,
 ⟨some 146,.call 164 [.t 140,.t 142,.t 143,.t 144,.t 145],none⟩] (some [0,1,3,4,10,11,16])) (.ops false [⟨some 147,.mov (.t 16),none⟩,
 ⟨some 2,.mov (.t 147),none⟩] (some [0,1,2,3,4,10,11])))))))))))))))))))))))
theorem m164 : fmatch Tryz.prog Tryz.f164 5 [] v164 = true := by kernel_rfl
def v166 : VC :=
 (.seq (.ops false [⟨some 3,.mov (.k (.bool false)),none⟩] (some [0,1])) (.seq (.ops false [⟨some 4,.mov (.t 0),none⟩,⟨some 5,.load 1 false (.t 1) [],none⟩,
 ⟨some 6,.call 130 [.t 4,.k (.int 0),.t 5],none⟩,⟨some 7,.not (.t 6),none⟩,⟨some 3,.mov (.t 7),none⟩] (some [3])) .ret))
theorem m166 : fmatch Tryz.prog Tryz.f166 2 [.tmp 3] v166 = true := by kernel_rfl
def v177 : VC :=
 (.seq (.ops false [⟨some 3,.mov (.k (.int 0)),none⟩] (some [0,1])) (.seq (.seq (.ops false [⟨some 4,.mov (.t 0),none⟩] (some [1,4])) (.cond (.t 4) (.seq (.ops false [⟨some 5,.load 1 false (.t 1) [],none⟩,
 ⟨some 6,.nilck (.t 5),none⟩,⟨some 7,.fld 3 (.t 6),none⟩,⟨some 8,.fld 2 (.t 7),none⟩,⟨some 9,.load 1 false (.t 8) [],none⟩,
 ⟨some 3,.mov (.t 9),none⟩] (some [3])) .ret) .skip)) (.seq (.ops false [⟨some 3,.mov (.k (.int 0)),none⟩] (some [3])) .ret)))
theorem m177 : fmatch Tryz.prog Tryz.f177 2 [.tmp 3] v177 = true := by kernel_rfl
def v178 : VC :=
 (.seq (.ops false [⟨some 2,.mov (.k (.int 0)),none⟩] (some [0])) (.seq (.ops false [⟨some 3,.mov (.k (.int 1000)),none⟩] (some [0,3])) (.seq (.seq (.ops false [⟨some 4,.mov (.t 0),none⟩,
 ⟨some 5,.mov (.k (.int 0)),none⟩] (some [3,4,5])) (.block 0 (.loop (.seq (.ops false [⟨some 6,.bin .lss (.t 5) (.t 4),none⟩] (some [3,4,5,6])) (.seq (.cond (.t 6) .skip (.exit 0)) (.seq (.block 1 (.ops false [⟨some 7,.mov (.t 3),none⟩,
 ⟨some 8,.bin .mul (.t 7) (.k (.int 7)),none⟩,⟨some 3,.mov (.t 8),none⟩] (some [3,4,5]))) (.ops false [⟨some 9,.bin .add (.t 5) (.k (.int 1)),none⟩,
 ⟨some 5,.mov (.t 9),none⟩] (some [3,4,5])))))))) (.seq (.ops false [⟨some 10,.mov (.t 3),none⟩,⟨some 2,.mov (.t 10),none⟩] (some [2])) .ret))))
theorem m178 : fmatch Tryz.prog Tryz.f178 1 [.tmp 2] v178 = true := by kernel_rfl
def v179 : VC :=
 (.seq (.ops false [⟨some 10,.mov (.t 1),none⟩,⟨some 11,.bin .add (.t 10) (.k (.int 1)),none⟩,
 ⟨some 8,.mov (.t 11),none⟩] (some [0,1,2,3,8])) (.block 0 (.loop (.seq (.seq (.ops false [⟨some 12,.mov (.t 8),none⟩,⟨some 13,.mov (.t 2),none⟩,
 ⟨some 14,.bin .lss (.t 12) (.t 13),none⟩] (some [0,1,2,3,8,14])) (.cond (.t 14) .skip (.exit 0))) (.seq (.block 1 (.seq (.ops false [⟨some 17,.mov (.t 8),none⟩,
 ⟨some 9,.mov (.t 17),none⟩] (some [0,1,2,3,8,9])) (.block 2 (.loop (.seq (.seq (.ops true [⟨some 18,.mov (.t 9),none⟩,⟨some 19,.mov (.t 1),none⟩,
 ⟨some 20,.bin .gtr (.t 18) (.t 19),none⟩,⟨some 21,.mov (.t 20),none⟩,⟨some 22,.mov (.t 3),some (21,true)⟩,⟨some 23,.mov (.t 0),some (21,true)⟩,
 ⟨some 24,.mov (.t 9),some (21,true)⟩,⟨some 25,.idx 1 (.t 23) (.t 24),some (21,true)⟩,⟨some 26,.load 1 false (.t 25) [],some (21,true)⟩,
 ⟨some 27,.mov (.t 0),some (21,true)⟩,⟨some 28,.mov (.t 9),some (21,true)⟩,⟨some 29,.bin .sub (.t 28) (.k (.int 1)),some (21,true)⟩,
 ⟨some 30,.idx 1 (.t 27) (.t 29),some (21,true)⟩,⟨some 31,.load 1 false (.t 30) [],some (21,true)⟩,⟨some 32,.callv (.t 22) [.t 26,.t 31],some (21,true)⟩,
 ⟨some 33,.bin .lss (.t 32) (.k (.int 0)),some (21,true)⟩,
 ⟨some 34,.pick (.t 21) (.t 33) (.k (.bool false)),none⟩] (some [0,1,2,3,8,9,34])) (.cond (.t 34) .skip (.exit 2))) (.seq (.block 3 (.ops true [⟨some 37,.mov (.t 0),none⟩,
 ⟨some 38,.mov (.t 9),none⟩,⟨some 39,.mov (.t 0),none⟩,⟨some 40,.mov (.t 9),none⟩,⟨some 41,.bin .sub (.t 40) (.k (.int 1)),none⟩,⟨some 42,.mov (.t 0),none⟩,
 ⟨some 43,.mov (.t 9),none⟩,⟨some 44,.bin .sub (.t 43) (.k (.int 1)),none⟩,⟨some 45,.idx 1 (.t 42) (.t 44),none⟩,⟨some 46,.load 1 false (.t 45) [],none⟩,
 ⟨some 47,.mov (.t 0),none⟩,⟨some 48,.mov (.t 9),none⟩,⟨some 49,.idx 1 (.t 47) (.t 48),none⟩,⟨some 50,.load 1 false (.t 49) [],none⟩,
 ⟨some 51,.idx 1 (.t 37) (.t 38),none⟩,⟨none,.store 1 (.t 51) (.t 46) none,none⟩,⟨some 52,.idx 1 (.t 39) (.t 41),none⟩,
 ⟨none,.store 1 (.t 52) (.t 50) none,none⟩] (some [0,1,2,3,8,9]))) (.ops false [⟨some 35,.mov (.t 9),none⟩,⟨some 36,.bin .sub (.t 35) (.k (.int 1)),none⟩,
 ⟨some 9,.mov (.t 36),none⟩] (some [0,1,2,3,8,9])))))))) (.ops false [⟨some 15,.mov (.t 8),none⟩,⟨some 16,.bin .add (.t 15) (.k (.int 1)),none⟩,
 ⟨some 8,.mov (.t 16),none⟩] (some [0,1,2,3,8])))))))
theorem m179 : fmatch Tryz.prog Tryz.f179 4 [] v179 = true := by kernel_rfl
end Go.Proofs.YtpangdaijhiohaaGreatDoor

namespace Go.Proofs.YtpangdaijhiohaaGreatDoor
open Go Go.V
set_option maxRecDepth 100000
def v149g (fm : Nat) : VC :=
 (.seq (.ops false [⟨some 2,.nils 2 1,none⟩] (some [0])) (.seq (.seq (.ops false [⟨some 3,.mov (.t 0),none⟩,
 ⟨some 4,.nile (.t 3),none⟩] (some [0,4])) (.cond (.t 4) (.seq (.ops false [⟨some 2,.nils 501 1,none⟩] (some [2])) .ret) .skip)) (.seq (.ops false [⟨some 5,.bslice 1 [],none⟩,
 ⟨some 6,.mov (.t 0),none⟩,⟨some 7,.appG fm none 1 8 false (.t 5) (.t 6),none⟩,⟨some 2,.mov (.t 7),none⟩] (some [2])) .ret)))
theorem m149g (fm : Nat) : fmatch Tryz.prog Tryz.f149 1 [.tmp 2] (v149g fm) = true := by kernel_rfl
def v126i (b1 b2 : List (Nat × Nat × BX)) : VC :=
 (.seq (.ops false [⟨some 2,.box 6002 3 (.t 0),none⟩,⟨some 4,.nils 6004 1,none⟩,
 ⟨some 5,.nils 6005 1,none⟩] (some [1,2])) (.seq (.ops true [⟨some 8,.fld 0 (.t 2),none⟩,⟨some 9,.load 1 false (.t 8) [1048576],none⟩,
 ⟨some 10,.calls 149 1 [.t 9] b1,none⟩,⟨some 11,.fld 1 (.t 2),none⟩,⟨some 12,.load 1 false (.t 11) [1048576],none⟩,⟨some 13,.calls 149 2 [.t 12] b2,none⟩,
 ⟨some 4,.mov (.t 10),none⟩,⟨some 5,.mov (.t 13),none⟩] (some [1,2,4,5])) (.seq (.seq (.ops false [⟨some 14,.mov (.t 1),none⟩,⟨some 15,.len (.t 14),none⟩,
 ⟨some 16,.mov (.k (.int 0)),none⟩] (some [2,4,5,14,15,16])) (.block 0 (.loop (.seq (.ops false [⟨some 17,.bin .lss (.t 16) (.t 15),none⟩] (some [2,4,5,14,15,16,17])) (.seq (.cond (.t 17) .skip (.exit 0)) (.seq (.block 1 (.seq (.ops false [⟨some 18,.mov (.t 16),none⟩,
 ⟨some 19,.idx 1 (.t 14) (.t 16),none⟩,⟨some 20,.load 1 false (.t 19) [],none⟩,⟨some 6,.mov (.t 18),none⟩,
 ⟨some 7,.mov (.t 20),none⟩] (some [2,4,5,6,7,14,15,16])) (.seq (.ops false [⟨some 21,.mov (.t 4),none⟩,⟨some 22,.fld 2 (.t 2),none⟩,
 ⟨some 23,.load 1 false (.t 22) [],none⟩,⟨some 24,.mov (.t 6),none⟩,⟨some 25,.idx 2 (.t 23) (.t 24),none⟩,⟨some 26,.fld 0 (.t 25),none⟩,
 ⟨some 27,.load 1 false (.t 26) [],none⟩,⟨some 28,.idx 1 (.t 21) (.t 27),none⟩,⟨some 29,.load 1 false (.t 28) [],none⟩,⟨some 30,.mov (.t 7),none⟩,
 ⟨some 31,.bin .sub (.t 29) (.t 30),none⟩,⟨some 32,.idx 1 (.t 21) (.t 27),none⟩,
 ⟨none,.store 1 (.t 32) (.t 31) none,none⟩] (some [2,4,5,6,7,14,15,16])) (.ops false [⟨some 33,.mov (.t 5),none⟩,⟨some 34,.fld 2 (.t 2),none⟩,
 ⟨some 35,.load 1 false (.t 34) [],none⟩,⟨some 36,.mov (.t 6),none⟩,⟨some 37,.idx 2 (.t 35) (.t 36),none⟩,⟨some 38,.fld 1 (.t 37),none⟩,
 ⟨some 39,.load 1 false (.t 38) [],none⟩,⟨some 40,.idx 1 (.t 33) (.t 39),none⟩,⟨some 41,.load 1 false (.t 40) [],none⟩,⟨some 42,.mov (.t 7),none⟩,
 ⟨some 43,.bin .sub (.t 41) (.t 42),none⟩,⟨some 44,.idx 1 (.t 33) (.t 39),none⟩,
 ⟨none,.store 1 (.t 44) (.t 43) none,none⟩] (some [2,4,5,14,15,16]))))) (.ops false [⟨some 45,.bin .add (.t 16) (.k (.int 1)),none⟩,
 ⟨some 16,.mov (.t 45),none⟩] (some [2,4,5,14,15,16])))))))) (.seq (.ops false [⟨some 46,.mov (.t 4),none⟩,⟨some 47,.mov (.t 5),none⟩,⟨some 4,.mov (.t 46),none⟩,
 ⟨some 5,.mov (.t 47),none⟩] (some [4,5])) .ret))))
theorem m126i (b1 b2 : List (Nat × Nat × BX)) : fmatch Tryz.prog Tryz.f126 2 [.tmp 4, .tmp 5] (v126i b1 b2) = true := by kernel_rfl
def v27g : VC :=
 (.seq (.ops false [⟨some 4,.box 4 4 (.t 0),none⟩,⟨some 7,.box 7 2 (.t 3),none⟩,
 ⟨some 8,.alloc 8 [.int 0,.int 0,.sl 1 [] .full,.sl 2 [] .full],none⟩] (some [1,2,4,7,8])) (.seq (.ops false [⟨some 10,.load 4 true (.t 4) [],none⟩,
 ⟨some 11,.calli 77 [.t 10],none⟩,⟨some 9,.alloc 9 [.int 0,.int 0,.sl 1 [] .full,.sl 2 [] .full],none⟩,
 ⟨none,.store 4 (.t 9) (.t 11) (some 9),none⟩] (some [1,2,4,7,8,9])) (.seq (.seq (.ops false [⟨some 12,.mov (.t 1),none⟩,⟨some 13,.fld 2 (.t 4),none⟩,
 ⟨some 14,.load 1 false (.t 13) [],none⟩,⟨some 15,.len (.t 14),none⟩,
 ⟨some 16,.bin .eql (.t 12) (.t 15),none⟩] (some [1,2,7,8,9,16])) (.cond (.t 16) (.ops false [⟨some 17,.fld 3 (.t 9),none⟩,
 ⟨some 18,.load 1 false (.t 17) [],none⟩,⟨some 19,.mov (.t 2),none⟩,⟨some 20,.load 2 true (.t 7) [],none⟩,⟨some 21,.idx 2 (.t 18) (.t 19),none⟩,
 ⟨none,.store 2 (.t 21) (.t 20) none,none⟩] (some [8,9])) (.ops true [⟨some 22,.fld 2 (.t 9),none⟩,⟨some 23,.load 1 false (.t 22) [],none⟩,
 ⟨some 24,.mov (.t 1),none⟩,⟨some 25,.idx 1 (.t 23) (.t 24),none⟩,⟨some 26,.load 1 false (.t 25) [],none⟩,⟨some 27,.mov (.t 2),none⟩,
 ⟨some 28,.load 2 true (.t 7) [],none⟩,⟨some 29,.idx 2 (.t 26) (.t 27),none⟩,
 ⟨none,.store 2 (.t 29) (.t 28) none,none⟩] (some [8,9])))) (.seq (.opsN false [⟨some 30,.loadW 4 (.t 9) [],none⟩,
 ⟨none,.store 4 (.t 8) (.t 30) (some 8),none⟩] (some [8])) .ret))))
theorem m27g : fmatch Tryz.prog Tryz.f27 4 [.cell 8 25] v27g = true := by kernel_rfl
def v77g : VC :=
 (.seq (.ops false [⟨some 1,.box 4001 4 (.t 0),none⟩,
 ⟨some 2,.alloc 4002 [.int 0,.int 0,.sl 1 [] .full,.sl 2 [] .full],none⟩] (some [1,2])) (.seq (.ops true [⟨some 5,.fld 0 (.t 1),none⟩,
 ⟨some 6,.load 1 false (.t 5) [4003,1048576],none⟩,⟨some 7,.fld 1 (.t 1),none⟩,⟨some 8,.load 1 false (.t 7) [4003,1048576],none⟩,⟨some 9,.bslice 2 [],none⟩,
 ⟨some 10,.fld 3 (.t 1),none⟩,⟨some 11,.load 1 false (.t 10) [4003,1048576],none⟩,⟨some 12,.appG 1 none 2 16 true (.t 9) (.t 11),none⟩,
 ⟨some 13,.buildW [.int 0,.int 0,.sl 1 [] .full,.sl 2 [] .full] [(0,1,.t 6),(1,1,.t 8),(3,1,.t 12)],none⟩,
 ⟨some 3,.alloc 4003 [.int 0,.int 0,.sl 1 [] .full,.sl 2 [] .full],none⟩,
 ⟨none,.store 4 (.t 3) (.t 13) (some 4003),none⟩] (some [1,2,3])) (.seq (.seq (.ops false [⟨some 4,.mov (.k (.int 0)),none⟩] (some [1,2,3,4])) (.block 0 (.loop (.seq (.seq (.ops false [⟨some 14,.mov (.t 4),none⟩,
 ⟨some 15,.fld 2 (.t 1),none⟩,⟨some 16,.load 1 false (.t 15) [],none⟩,⟨some 17,.len (.t 16),none⟩,
 ⟨some 18,.bin .lss (.t 14) (.t 17),none⟩] (some [1,2,3,4,18])) (.cond (.t 18) .skip (.exit 0))) (.seq (.block 1 (.ops true [⟨some 21,.fld 2 (.t 3),none⟩,
 ⟨some 22,.load 1 false (.t 21) [1048576],none⟩,⟨some 23,.bslice 2 [],none⟩,⟨some 24,.fld 2 (.t 1),none⟩,⟨some 25,.load 1 false (.t 24) [1048576],none⟩,
 ⟨some 26,.mov (.t 4),none⟩,⟨some 27,.idx 1 (.t 25) (.t 26),none⟩,⟨some 28,.load 1 false (.t 27) [1048576],none⟩,
 ⟨some 29,.appG 2 (some (.t 26)) 2 16 true (.t 23) (.t 28),none⟩,⟨some 30,.bsliceW 1 [.t 29],none⟩,⟨some 31,.appG 3 none 1 24 false (.t 22) (.t 30),none⟩,
 ⟨some 32,.fld 2 (.t 3),none⟩,⟨none,.store 1 (.t 32) (.t 31) (some 4003),none⟩] (some [1,2,3,4]))) (.ops false [⟨some 19,.mov (.t 4),none⟩,
 ⟨some 20,.bin .add (.t 19) (.k (.int 1)),none⟩,⟨some 4,.mov (.t 20),none⟩] (some [1,2,3,4]))))))) (.seq (.ops false [⟨some 33,.loadW 4 (.t 3) [],none⟩,
 ⟨none,.store 4 (.t 2) (.t 33) (some 4002),none⟩] (some [2])) .ret))))
theorem m77g : fmatch Tryz.prog Tryz.f77 1 [.cell 2 25] v77g = true := by kernel_rfl
end Go.Proofs.YtpangdaijhiohaaGreatDoor

namespace Go.Proofs.YtpangdaijhiohaaGreatDoor
open Go Go.V
set_option maxRecDepth 100000
def v5t : VC :=
 (.seq (.ops false [⟨some 3,.box 3 2 (.t 0),none⟩,
 ⟨some 6,.mov (.k (.bool false)),none⟩] (some [1,2,3])) (.seq (.seq (.ops false [⟨some 35,.load 2 true (.t 3) [],none⟩,⟨some 36,.call 28 [.t 35],none⟩,
 ⟨some 37,.mov (.t 36),none⟩,⟨some 38,.load 2 true (.t 3) [],some (37,false)⟩,⟨some 39,.call 29 [.t 38],some (37,false)⟩,
 ⟨some 40,.bin .neq (.t 39) (.k (.int 0)),some (37,false)⟩,⟨some 41,.pick (.t 37) (.k (.bool true)) (.t 40),none⟩,⟨some 42,.mov (.t 41),none⟩,
 ⟨some 43,.fld 0 (.t 3),some (42,false)⟩,⟨some 44,.load 1 false (.t 43) [],some (42,false)⟩,⟨some 45,.len (.t 44),some (42,false)⟩,
 ⟨some 46,.bin .gtr (.t 45) (.k (.int 4)),some (42,false)⟩,⟨some 47,.pick (.t 42) (.k (.bool true)) (.t 46),none⟩,⟨some 48,.mov (.t 47),none⟩,
 ⟨some 49,.mov (.t 1),some (48,false)⟩,⟨some 50,.call 30 [.t 49],some (48,false)⟩,⟨some 51,.not (.t 50),some (48,false)⟩,
 ⟨some 52,.pick (.t 48) (.k (.bool true)) (.t 51),none⟩,⟨some 53,.mov (.t 52),none⟩,⟨some 54,.mov (.t 2),some (53,false)⟩,
 ⟨some 55,.call 8 [.t 54,.k (.int 7),.k (.int 10)],some (53,false)⟩,⟨some 56,.not (.t 55),some (53,false)⟩,
 ⟨some 57,.pick (.t 53) (.k (.bool true)) (.t 56),none⟩] (some [1,2,3,57])) (.cond (.t 57) (.seq (.ops false [⟨some 58,.call 21 [],none⟩,
 ⟨some 6,.mov (.t 58),none⟩] (some [6])) .ret) .skip)) (.seq (.ops false [⟨some 60,.load 2 true (.t 3) [],none⟩,⟨some 61,.mov (.t 1),none⟩,
 ⟨some 62,.call 31 [.t 60,.t 61],none⟩,⟨some 59,.mov (.t 62),none⟩,⟨some 63,.ext (.t 59) 0,none⟩,⟨some 64,.ext (.t 59) 1,none⟩,⟨some 7,.mov (.t 63),none⟩,
 ⟨some 8,.mov (.t 64),none⟩] (some [1,2,3,7,8])) (.seq (.ops false [⟨some 66,.load 2 true (.t 3) [],none⟩,⟨some 67,.mov (.t 1),none⟩,
 ⟨some 68,.call 32 [.t 66,.t 67],none⟩,⟨some 65,.mov (.t 68),none⟩,⟨some 69,.ext (.t 65) 0,none⟩,⟨some 70,.ext (.t 65) 1,none⟩,⟨some 9,.mov (.t 69),none⟩,
 ⟨some 10,.mov (.t 70),none⟩] (some [1,2,3,7,8,9,10])) (.seq (.seq (.ops false [⟨some 71,.mov (.t 8),none⟩,⟨some 72,.bin .neq (.t 71) (.k (.int 0)),none⟩,
 ⟨some 73,.mov (.t 72),none⟩,⟨some 74,.mov (.t 10),some (73,false)⟩,⟨some 75,.bin .neq (.t 74) (.k (.int 0)),some (73,false)⟩,
 ⟨some 76,.pick (.t 73) (.k (.bool true)) (.t 75),none⟩,⟨some 77,.mov (.t 76),none⟩,⟨some 78,.mov (.t 7),some (77,false)⟩,⟨some 79,.len (.t 78),some (77,false)⟩,
 ⟨some 80,.fld 0 (.t 3),some (77,false)⟩,⟨some 81,.load 1 false (.t 80) [],some (77,false)⟩,⟨some 82,.len (.t 81),some (77,false)⟩,
 ⟨some 83,.bin .neq (.t 79) (.t 82),some (77,false)⟩,⟨some 84,.pick (.t 77) (.k (.bool true)) (.t 83),none⟩,⟨some 85,.mov (.t 84),none⟩,
 ⟨some 86,.mov (.t 9),some (85,false)⟩,⟨some 87,.bin .lss (.t 86) (.k (.int 0)),some (85,false)⟩,⟨some 88,.pick (.t 85) (.k (.bool true)) (.t 87),none⟩,
 ⟨some 89,.mov (.t 88),none⟩,⟨some 90,.mov (.t 9),some (89,false)⟩,⟨some 91,.mov (.t 1),some (89,false)⟩,⟨some 92,.bin .gtr (.t 90) (.t 91),some (89,false)⟩,
 ⟨some 93,.pick (.t 89) (.k (.bool true)) (.t 92),none⟩] (some [1,2,7,9,93])) (.cond (.t 93) (.seq (.ops false [⟨some 6,.mov (.k (.bool false)),none⟩] (some [6])) .ret) .skip)) (.seq (.ops false [⟨some 94,.mov (.t 2),none⟩,
 ⟨some 95,.bslice 2 [.k (.agg [.int 0,.int 0]),.k (.agg [.int 0,.int 0])],none⟩,
 ⟨some 96,.build [.int 0,.int 0,.sl 1 [] .full,.sl 2 [] .full] [(0,1,.t 94),(1,1,.k (.int 2)),(3,1,.t 95)],none⟩,
 ⟨some 11,.alloc 11 [.int 0,.int 0,.sl 1 [] .full,.sl 2 [] .full],none⟩,
 ⟨none,.store 4 (.t 11) (.t 96) (some 11),none⟩] (some [1,2,7,9,11])) (.seq (.seq (.ops false [⟨some 12,.mov (.k (.int 0)),none⟩] (some [1,2,7,9,11,12])) (.block 0 (.loop (.seq (.seq (.ops false [⟨some 97,.mov (.t 12),none⟩,
 ⟨some 98,.mov (.t 7),none⟩,⟨some 99,.len (.t 98),none⟩,
 ⟨some 100,.bin .lss (.t 97) (.t 99),none⟩] (some [1,2,7,9,11,12,100])) (.cond (.t 100) .skip (.exit 0))) (.seq (.block 1 (.ops true [⟨some 103,.fld 2 (.t 11),none⟩,
 ⟨some 104,.load 1 false (.t 103) [],none⟩,⟨some 105,.bslice 2 [.k (.agg [.int 0,.int 0]),.k (.agg [.int 0,.int 0])],none⟩,⟨some 106,.bslice 1 [.t 105],none⟩,
 ⟨some 107,.app 107 1 24 (.t 104) (.t 106),none⟩,⟨some 108,.fld 2 (.t 11),none⟩,
 ⟨none,.store 1 (.t 108) (.t 107) (some 11),none⟩] (some [1,2,7,9,11,12]))) (.ops false [⟨some 101,.mov (.t 12),none⟩,
 ⟨some 102,.bin .add (.t 101) (.k (.int 1)),none⟩,
 ⟨some 12,.mov (.t 102),none⟩] (some [1,2,7,9,11,12]))))))) (.seq (.ops false [⟨some 13,.nils 13 1,none⟩] (some [1,2,7,9,11,13])) (.seq (.seq (.ops false [⟨some 14,.mov (.k (.int 0)),none⟩] (some [1,2,7,9,11,13,14])) (.block 2 (.loop (.seq (.seq (.ops false [⟨some 109,.mov (.t 14),none⟩,
 ⟨some 110,.mov (.t 7),none⟩,⟨some 111,.len (.t 110),none⟩,
 ⟨some 112,.bin .leq (.t 109) (.t 111),none⟩] (some [1,2,7,9,11,13,14,112])) (.cond (.t 112) .skip (.exit 2))) (.seq (.block 3 (.seq (.ops false [⟨some 115,.mov (.t 1),none⟩,
 ⟨some 116,.mov (.t 9),none⟩,⟨some 117,.bin .sub (.t 115) (.t 116),none⟩,
 ⟨some 15,.mov (.t 117),none⟩] (some [1,2,7,9,11,13,14,15])) (.seq (.seq (.ops false [⟨some 118,.mov (.t 14),none⟩,⟨some 119,.mov (.t 7),none⟩,
 ⟨some 120,.len (.t 119),none⟩,
 ⟨some 121,.bin .lss (.t 118) (.t 120),none⟩] (some [1,2,7,9,11,13,14,15,121])) (.cond (.t 121) (.ops false [⟨some 122,.mov (.t 7),none⟩,
 ⟨some 123,.mov (.t 14),none⟩,⟨some 124,.idx 1 (.t 122) (.t 123),none⟩,⟨some 125,.load 1 false (.t 124) [],none⟩,
 ⟨some 15,.mov (.t 125),none⟩] (some [1,2,7,9,11,13,14,15])) .skip)) (.seq (.ops false [⟨some 127,.load 4 true (.t 11) [],none⟩,⟨some 128,.mov (.t 15),none⟩,
 ⟨some 129,.call 33 [.t 127,.t 128],none⟩,⟨some 126,.mov (.t 129),none⟩,⟨some 130,.ext (.t 126) 0,none⟩,⟨some 131,.ext (.t 126) 1,none⟩,
 ⟨some 16,.mov (.t 130),none⟩,⟨some 17,.mov (.t 131),none⟩] (some [1,2,7,9,11,13,14,16,17])) (.seq (.seq (.ops false [⟨some 132,.mov (.t 17),none⟩,
 ⟨some 133,.bin .neq (.t 132) (.k (.int 0)),none⟩,⟨some 134,.mov (.t 133),none⟩,⟨some 135,.load 4 true (.t 11) [],some (134,false)⟩,
 ⟨some 136,.mov (.t 16),some (134,false)⟩,⟨some 137,.call 34 [.t 135,.t 136],some (134,false)⟩,⟨some 138,.not (.t 137),some (134,false)⟩,
 ⟨some 139,.pick (.t 134) (.k (.bool true)) (.t 138),none⟩] (some [1,2,7,9,11,13,14,16,139])) (.cond (.t 139) (.seq (.ops false [⟨some 6,.mov (.k (.bool false)),none⟩] (some [6])) .ret) .skip)) (.ops false [⟨some 140,.mov (.t 13),none⟩,
 ⟨some 141,.bslice 1 [],none⟩,⟨some 142,.mov (.t 16),none⟩,⟨some 143,.app 143 1 8 (.t 141) (.t 142),none⟩,⟨some 144,.bslice 1 [.t 143],none⟩,
 ⟨some 145,.app 145 1 24 (.t 140) (.t 144),none⟩,⟨some 13,.mov (.t 145),none⟩] (some [1,2,7,9,11,13,14]))))))) (.ops false [⟨some 113,.mov (.t 14),none⟩,
 ⟨some 114,.bin .add (.t 113) (.k (.int 1)),none⟩,
 ⟨some 14,.mov (.t 114),none⟩] (some [1,2,7,9,11,13,14]))))))) (.seq (.seq (.ops false [⟨some 18,.mov (.k (.int 0)),none⟩] (some [2,7,11,13,18])) (.block 4 (.loop (.seq (.seq (.ops false [⟨some 146,.mov (.t 18),none⟩,
 ⟨some 147,.mov (.t 13),none⟩,⟨some 148,.len (.t 147),none⟩,
 ⟨some 149,.bin .lss (.t 146) (.t 148),none⟩] (some [2,7,11,13,18,149])) (.cond (.t 149) .skip (.exit 4))) (.seq (.block 5 (.seq (.ops false [⟨some 19,.mov (.k (.int 0)),none⟩] (some [2,7,11,13,18,19])) (.block 6 (.loop (.seq (.seq (.ops false [⟨some 152,.mov (.t 19),none⟩,
 ⟨some 153,.bin .lss (.t 152) (.k (.int 2)),none⟩] (some [2,7,11,13,18,19,153])) (.cond (.t 153) .skip (.exit 6))) (.seq (.block 7 (.ops true [⟨some 156,.load 4 true (.t 11) [],none⟩,
 ⟨some 157,.mov (.t 18),none⟩,⟨some 158,.mov (.t 19),none⟩,⟨some 159,.mov (.t 13),none⟩,⟨some 160,.mov (.t 18),none⟩,⟨some 161,.idx 1 (.t 159) (.t 160),none⟩,
 ⟨some 162,.load 1 false (.t 161) [11],none⟩,⟨some 163,.mov (.t 19),none⟩,⟨some 164,.idx 1 (.t 162) (.t 163),none⟩,⟨some 165,.load 1 false (.t 164) [11],none⟩,
 ⟨some 166,.mov (.t 13),none⟩,⟨some 167,.mov (.t 18),none⟩,⟨some 168,.idx 1 (.t 166) (.t 167),none⟩,⟨some 169,.load 1 false (.t 168) [11],none⟩,
 ⟨some 170,.mov (.t 19),none⟩,⟨some 171,.idx 1 (.t 169) (.t 170),none⟩,⟨some 172,.load 1 false (.t 171) [11],none⟩,
 ⟨some 173,.build [.int 0,.int 0] [(0,1,.t 165),(1,1,.t 172)],none⟩,⟨some 174,.call 27 [.t 156,.t 157,.t 158,.t 173],none⟩,
 ⟨none,.store 4 (.t 11) (.t 174) (some 11),none⟩] (some [2,7,11,13,18,19]))) (.ops false [⟨some 154,.mov (.t 19),none⟩,
 ⟨some 155,.bin .add (.t 154) (.k (.int 1)),none⟩,⟨some 19,.mov (.t 155),none⟩] (some [2,7,11,13,18,19])))))))) (.ops false [⟨some 150,.mov (.t 18),none⟩,
 ⟨some 151,.bin .add (.t 150) (.k (.int 1)),none⟩,
 ⟨some 18,.mov (.t 151),none⟩] (some [2,7,11,13,18]))))))) (.seq (.ops false [⟨some 20,.nils 20 1,none⟩] (some [2,7,11,13,20])) (.seq (.seq (.ops false [⟨some 21,.mov (.k (.int 0)),none⟩] (some [2,7,11,13,20,21])) (.block 8 (.loop (.seq (.seq (.ops false [⟨some 175,.mov (.t 21),none⟩,
 ⟨some 176,.mov (.t 13),none⟩,⟨some 177,.len (.t 176),none⟩,
 ⟨some 178,.bin .lss (.t 175) (.t 177),none⟩] (some [2,7,11,13,20,21,178])) (.cond (.t 178) .skip (.exit 8))) (.seq (.block 9 (.ops false [⟨some 181,.mov (.t 20),none⟩,
 ⟨some 182,.bslice 1 [],none⟩,⟨some 183,.mov (.t 13),none⟩,⟨some 184,.mov (.t 21),none⟩,⟨some 185,.idx 1 (.t 183) (.t 184),none⟩,
 ⟨some 186,.load 1 false (.t 185) [],none⟩,⟨some 187,.app 187 1 8 (.t 182) (.t 186),none⟩,⟨some 188,.bslice 1 [.t 187],none⟩,
 ⟨some 189,.app 189 1 24 (.t 181) (.t 188),none⟩,⟨some 20,.mov (.t 189),none⟩] (some [2,7,11,13,20,21]))) (.ops false [⟨some 179,.mov (.t 21),none⟩,
 ⟨some 180,.bin .add (.t 179) (.k (.int 1)),none⟩,
 ⟨some 21,.mov (.t 180),none⟩] (some [2,7,11,13,20,21]))))))) (.seq (.ops false [⟨some 191,.load 4 true (.t 11) [],none⟩,⟨some 192,.mov (.t 20),none⟩,
 ⟨some 193,.call 35 [.t 191,.t 192],none⟩,⟨some 190,.mov (.t 193),none⟩,⟨some 194,.ext (.t 190) 0,none⟩,⟨some 195,.ext (.t 190) 1,none⟩,
 ⟨some 22,.mov (.t 194),none⟩,⟨some 8,.mov (.t 195),none⟩] (some [2,7,8,11,13,22])) (.seq (.ops false [⟨some 197,.load 4 true (.t 11) [],none⟩,
 ⟨some 198,.call 22 [.t 197],none⟩,⟨some 196,.mov (.t 198),none⟩,⟨some 199,.ext (.t 196) 0,none⟩,⟨some 200,.ext (.t 196) 1,none⟩,⟨some 23,.mov (.t 199),none⟩,
 ⟨some 10,.mov (.t 200),none⟩] (some [2,7,8,10,11,13,22,23])) (.seq (.ops false [⟨some 202,.load 4 true (.t 11) [],none⟩,⟨some 203,.call 36 [.t 202],none⟩,
 ⟨some 201,.mov (.t 203),none⟩,⟨some 204,.ext (.t 201) 0,none⟩,⟨some 205,.ext (.t 201) 1,none⟩,⟨some 24,.mov (.t 204),none⟩,
 ⟨some 25,.mov (.t 205),none⟩] (some [2,7,8,10,11,13,22,23,24,25])) (.seq (.ops false [⟨some 207,.load 4 true (.t 11) [],none⟩,
 ⟨some 208,.call 37 [.t 207,.k (.int 1)],none⟩,⟨some 206,.mov (.t 208),none⟩,⟨some 209,.ext (.t 206) 0,none⟩,⟨some 210,.ext (.t 206) 1,none⟩,
 ⟨some 26,.alloc 26 [.int 0,.int 0],none⟩,⟨none,.store 2 (.t 26) (.t 209) (some 26),none⟩,
 ⟨some 27,.mov (.t 210),none⟩] (some [2,7,8,10,11,13,22,23,24,25,26,27])) (.seq (.seq (.ops false [⟨some 211,.mov (.t 8),none⟩,
 ⟨some 212,.bin .neq (.t 211) (.k (.int 0)),none⟩,⟨some 213,.mov (.t 212),none⟩,⟨some 214,.mov (.t 10),some (213,false)⟩,
 ⟨some 215,.bin .neq (.t 214) (.k (.int 0)),some (213,false)⟩,⟨some 216,.pick (.t 213) (.k (.bool true)) (.t 215),none⟩,⟨some 217,.mov (.t 216),none⟩,
 ⟨some 218,.mov (.t 25),some (217,false)⟩,⟨some 219,.bin .neq (.t 218) (.k (.int 0)),some (217,false)⟩,⟨some 220,.pick (.t 217) (.k (.bool true)) (.t 219),none⟩,
 ⟨some 221,.mov (.t 220),none⟩,⟨some 222,.mov (.t 27),some (221,false)⟩,⟨some 223,.bin .neq (.t 222) (.k (.int 0)),some (221,false)⟩,
 ⟨some 224,.pick (.t 221) (.k (.bool true)) (.t 223),none⟩,⟨some 225,.mov (.t 224),none⟩,⟨some 226,.mov (.t 22),some (225,false)⟩,
 ⟨some 227,.not (.t 226),some (225,false)⟩,⟨some 228,.pick (.t 225) (.k (.bool true)) (.t 227),none⟩,⟨some 229,.mov (.t 228),none⟩,
 ⟨some 230,.mov (.t 23),some (229,false)⟩,⟨some 231,.bin .neq (.t 230) (.k (.int 1)),some (229,false)⟩,⟨some 232,.pick (.t 229) (.k (.bool true)) (.t 231),none⟩,
 ⟨some 233,.mov (.t 232),none⟩,⟨some 234,.mov (.t 24),some (233,false)⟩,⟨some 235,.bin .neq (.t 234) (.k (.int 0)),some (233,false)⟩,
 ⟨some 236,.pick (.t 233) (.k (.bool true)) (.t 235),none⟩,⟨some 237,.mov (.t 236),none⟩,⟨some 238,.fld 0 (.t 26),some (237,false)⟩,
 ⟨some 239,.load 1 false (.t 238) [],some (237,false)⟩,⟨some 240,.fld 1 (.t 26),some (237,false)⟩,⟨some 241,.load 1 false (.t 240) [],some (237,false)⟩,
 ⟨some 242,.bin .neq (.t 239) (.t 241),some (237,false)⟩,⟨some 243,.pick (.t 237) (.k (.bool true)) (.t 242),none⟩,⟨some 244,.mov (.t 243),none⟩,
 ⟨some 245,.fld 0 (.t 26),some (244,false)⟩,⟨some 246,.load 1 false (.t 245) [],some (244,false)⟩,⟨some 247,.bin .lss (.t 246) (.k (.int 0)),some (244,false)⟩,
 ⟨some 248,.pick (.t 244) (.k (.bool true)) (.t 247),none⟩,⟨some 249,.mov (.t 248),none⟩,⟨some 250,.fld 0 (.t 26),some (249,false)⟩,
 ⟨some 251,.load 1 false (.t 250) [],some (249,false)⟩,⟨some 252,.bin .gtr (.t 251) (.k (.int 4)),some (249,false)⟩,
 ⟨some 253,.pick (.t 249) (.k (.bool true)) (.t 252),none⟩] (some [2,7,11,13,253])) (.cond (.t 253) (.seq (.ops false [⟨some 6,.mov (.k (.bool false)),none⟩] (some [6])) .ret) .skip)) (.seq (.seq (.ops false [⟨some 28,.mov (.k (.int (-1))),none⟩] (some [2,7,11,13,28])) (.block 10 (.loop (.seq (.seq (.ops false [⟨some 254,.mov (.t 28),none⟩,
 ⟨some 255,.bin .lss (.t 254) (.k (.int 2)),none⟩] (some [2,7,11,13,28,255])) (.cond (.t 255) .skip (.exit 10))) (.seq (.block 11 (.seq (.ops false [⟨some 258,.mov (.t 13),none⟩,
 ⟨some 259,.mov (.t 7),none⟩,⟨some 260,.len (.t 259),none⟩,⟨some 261,.idx 1 (.t 258) (.t 260),none⟩,⟨some 262,.load 1 false (.t 261) [],none⟩,
 ⟨some 263,.idx 1 (.t 262) (.k (.int 1)),none⟩,⟨some 264,.load 1 false (.t 263) [],none⟩,⟨some 265,.mov (.t 28),none⟩,
 ⟨some 266,.bin .add (.t 264) (.t 265),none⟩,⟨some 29,.mov (.t 266),none⟩] (some [2,7,11,13,28,29])) (.seq (.seq (.ops false [⟨some 267,.mov (.t 29),none⟩,
 ⟨some 268,.mov (.t 2),none⟩,⟨some 269,.bin .sub (.t 268) (.k (.int 1)),none⟩,⟨some 270,.call 8 [.t 267,.k (.int 0),.t 269],none⟩,
 ⟨some 271,.not (.t 270),none⟩] (some [2,7,11,13,28,29,271])) (.cond (.t 271) (.exit 11) .skip)) (.seq (.ops false [⟨some 272,.load 4 true (.t 11) [],none⟩,
 ⟨some 273,.mov (.t 7),none⟩,⟨some 274,.len (.t 273),none⟩,⟨some 275,.mov (.t 29),none⟩,⟨some 276,.mov (.t 29),none⟩,
 ⟨some 277,.build [.int 0,.int 0] [(0,1,.t 275),(1,1,.t 276)],none⟩,⟨some 278,.call 27 [.t 272,.t 274,.k (.int 1),.t 277],none⟩,
 ⟨some 30,.alloc 30 [.int 0,.int 0,.sl 1 [] .full,.sl 2 [] .full],none⟩,
 ⟨none,.store 4 (.t 30) (.t 278) (some 30),none⟩] (some [2,7,11,13,28,30])) (.seq (.ops false [⟨some 280,.load 4 true (.t 30) [],none⟩,
 ⟨some 281,.call 36 [.t 280],none⟩,⟨some 279,.mov (.t 281),none⟩,⟨some 282,.ext (.t 279) 0,none⟩,⟨some 283,.ext (.t 279) 1,none⟩,⟨some 31,.mov (.t 282),none⟩,
 ⟨some 32,.mov (.t 283),none⟩] (some [2,7,11,13,28,30,31,32])) (.seq (.ops false [⟨some 285,.load 4 true (.t 30) [],none⟩,⟨some 286,.call 38 [.t 285],none⟩,
 ⟨some 284,.mov (.t 286),none⟩,⟨some 287,.ext (.t 284) 0,none⟩,⟨some 288,.ext (.t 284) 1,none⟩,⟨some 33,.mov (.t 287),none⟩,
 ⟨some 34,.mov (.t 288),none⟩] (some [2,7,11,13,28,31,32,33,34])) (.seq (.ops false [⟨some 289,.mov (.t 32),none⟩,
 ⟨some 290,.bin .neq (.t 289) (.k (.int 0)),none⟩,⟨some 291,.mov (.t 290),none⟩,⟨some 292,.mov (.t 34),some (291,false)⟩,
 ⟨some 293,.bin .neq (.t 292) (.k (.int 0)),some (291,false)⟩,⟨some 294,.pick (.t 291) (.k (.bool true)) (.t 293),none⟩,⟨some 295,.mov (.t 294),none⟩,
 ⟨some 296,.mov (.t 31),some (295,false)⟩,⟨some 297,.bin .neq (.t 296) (.k (.int 1)),some (295,false)⟩,⟨some 298,.pick (.t 295) (.k (.bool true)) (.t 297),none⟩,
 ⟨some 299,.mov (.t 298),none⟩,⟨some 300,.mov (.t 33),some (299,false)⟩,⟨some 301,.len (.t 300),some (299,false)⟩,⟨some 302,.mov (.t 7),some (299,false)⟩,
 ⟨some 303,.len (.t 302),some (299,false)⟩,⟨some 304,.bin .add (.t 303) (.k (.int 1)),some (299,false)⟩,⟨some 305,.bin .gtr (.t 301) (.t 304),some (299,false)⟩,
 ⟨some 306,.pick (.t 299) (.k (.bool true)) (.t 305),none⟩,⟨some 307,.mov (.t 306),none⟩,⟨some 308,.mov (.t 33),some (307,false)⟩,
 ⟨some 309,.mov (.t 7),some (307,false)⟩,⟨some 310,.len (.t 309),some (307,false)⟩,⟨some 311,.call 39 [.t 308,.t 310],some (307,false)⟩,
 ⟨some 312,.not (.t 311),some (307,false)⟩,
 ⟨some 313,.pick (.t 307) (.k (.bool true)) (.t 312),none⟩] (some [2,7,11,13,28,313])) (.cond (.t 313) (.seq (.ops false [⟨some 6,.mov (.k (.bool false)),none⟩] (some [6])) .ret) .skip)))))))) (.ops false [⟨some 256,.mov (.t 28),none⟩,
 ⟨some 257,.bin .add (.t 256) (.k (.int 2)),none⟩,⟨some 28,.mov (.t 257),none⟩] (some [2,7,11,13,28]))))))) (.seq (.ops false [⟨some 314,.call 21 [],none⟩,
 ⟨some 6,.mov (.t 314),none⟩] (some [6])) .ret)))))))))))))))))))
theorem m5t : fmatch Tryz.prog Tryz.f5 3 [.tmp 6] v5t = true := by kernel_rfl
end Go.Proofs.YtpangdaijhiohaaGreatDoor

set_option linter.unusedSimpArgs false
set_option linter.unusedVariables false
set_option linter.unnecessarySimpa false
namespace Go.Proofs.YtpangdaijhiohaaGreatDoor.Mo
structure Bx where
 sh : List Int
 mo : List Int
abbrev at0 (l : List Int) (i : Nat) : Int := l[i]?.getD default
structure BV (b : Bx) : Prop where
 n5 : b.sh.length ≤ 5
 len : b.mo.length = b.sh.length
 s0 : ∀ i, i < b.sh.length → 0 ≤ at0 b.sh i ∧ at0 b.sh i ≤ 20
 m0 : ∀ i, i < b.sh.length → 0 ≤ at0 b.mo i ∧ at0 b.mo i ≤ 20
def nxt1 (b : Bx) (h : List Int) (best : Int) (i : Nat) : Int :=
 if at0 b.sh i = 0 ∨ at0 b.mo i ≤ at0 h i then best
 else if best < 0 ∨ at0 b.sh best.toNat * (2 * at0 h i + 1) < at0 b.sh i * (2 * at0 h best.toNat + 1) then i else best
def nxtF (b : Bx) (h : List Int) (k : Nat) : Int := (List.range k).foldl (nxt1 b h) (-1)
def nxt (b : Bx) (h : List Int) : Int := nxtF b h b.sh.length
def inc (h : List Int) (q : Int) : List Int := if q < 0 then h else h.set q.toNat (at0 h q.toNat + 1)
def hasL (b : Bx) : Nat → List Int
 | 0 => List.replicate b.sh.length 0
 | k + 1 => inc (hasL b k) (nxt b (hasL b k))
theorem at0_lt {l : List Int} {i : Nat} (h : i < l.length) : at0 l i = l[i] := by simp [at0, h]
theorem at0_set {l : List Int} {i j : Nat} {x : Int} (h : i < l.length) : at0 (l.set i x) j = if i = j then x else at0 l j := by
 unfold at0
 rw [List.getElem?_set]
 by_cases e : i = j
 ·rw [if_pos e, if_pos e, if_pos (e ▸ h)]; rfl
 ·rw [if_neg e, if_neg e]
theorem nxtF_succ (b : Bx) (h : List Int) (k : Nat) : nxtF b h (k + 1) = nxt1 b h (nxtF b h k) k := by
 unfold nxtF
 rw [List.range_succ, List.foldl_append]
 rfl
def opn (b : Bx) (h : List Int) (i : Nat) : Prop := at0 b.sh i ≠ 0 ∧ at0 h i < at0 b.mo i
def prc (b : Bx) (i : Nat) (k : Int) (j : Nat) (m : Int) : Prop :=
 at0 b.sh j * (2 * k + 1) < at0 b.sh i * (2 * m + 1) ∨ (at0 b.sh j * (2 * k + 1) = at0 b.sh i * (2 * m + 1) ∧ i < j)
theorem frac_lt {A a B c C d : Int} (hc : 0 < c) (ha : 0 < a) (hd : 0 < d) (h1 : B * a < A * c) (h2 : C * c ≤ B * d) : C * a < A * d := by
 have e1 : B * a * d < A * c * d := Int.mul_lt_mul_of_pos_right h1 hd
 have e2 : C * c * a ≤ B * d * a := Int.mul_le_mul_of_nonneg_right h2 (Int.le_of_lt ha)
 have e3 : B * d * a = B * a * d := by rw [Int.mul_assoc, Int.mul_comm d a, ← Int.mul_assoc]
 have e4 : (C * a) * c < (A * d) * c := by
  have x1 : C * a * c = C * c * a := by rw [Int.mul_assoc, Int.mul_comm a c, ← Int.mul_assoc]
  have x2 : A * d * c = A * c * d := by rw [Int.mul_assoc, Int.mul_comm d c, ← Int.mul_assoc]
  rw [x1, x2]
  omega
 exact Int.lt_of_mul_lt_mul_right e4 (Int.le_of_lt hc)
theorem frac_le {A a B c C d : Int} (hc : 0 < c) (ha : 0 < a) (hd : 0 < d) (h1 : B * a ≤ A * c) (h2 : C * c ≤ B * d) : C * a ≤ A * d := by
 have e1 : B * a * d ≤ A * c * d := Int.mul_le_mul_of_nonneg_right h1 (Int.le_of_lt hd)
 have e2 : C * c * a ≤ B * d * a := Int.mul_le_mul_of_nonneg_right h2 (Int.le_of_lt ha)
 have e3 : B * d * a = B * a * d := by rw [Int.mul_assoc, Int.mul_comm d a, ← Int.mul_assoc]
 have e4 : (C * a) * c ≤ (A * d) * c := by
  have x1 : C * a * c = C * c * a := by rw [Int.mul_assoc, Int.mul_comm a c, ← Int.mul_assoc]
  have x2 : A * d * c = A * c * d := by rw [Int.mul_assoc, Int.mul_comm d c, ← Int.mul_assoc]
  rw [x1, x2]
  omega
 exact Int.le_of_mul_le_mul_right e4 hc
theorem frac_lt' {A a B c C d : Int} (hc : 0 < c) (ha : 0 < a) (hd : 0 < d) (h1 : B * a ≤ A * c) (h2 : C * c < B * d) : C * a < A * d := by
 have e1 : B * a * d ≤ A * c * d := Int.mul_le_mul_of_nonneg_right h1 (Int.le_of_lt hd)
 have e2 : C * c * a < B * d * a := Int.mul_lt_mul_of_pos_right h2 ha
 have e3 : B * d * a = B * a * d := by rw [Int.mul_assoc, Int.mul_comm d a, ← Int.mul_assoc]
 have e4 : (C * a) * c < (A * d) * c := by
  have x1 : C * a * c = C * c * a := by rw [Int.mul_assoc, Int.mul_comm a c, ← Int.mul_assoc]
  have x2 : A * d * c = A * c * d := by rw [Int.mul_assoc, Int.mul_comm d c, ← Int.mul_assoc]
  rw [x1, x2]
  omega
 exact Int.lt_of_mul_lt_mul_right e4 (Int.le_of_lt hc)
theorem prc_trans {b : Bx} {i j l : Nat} {k m n : Int} (hk : 0 ≤ k) (hm : 0 ≤ m) (hn : 0 ≤ n) (h1 : prc b i k j m) (h2 : prc b j m l n) : prc b i k l n := by
 unfold prc at *
 rcases h1 with h1 | ⟨h1, e1⟩
 ·exact .inl (frac_lt (c := 2 * m + 1) (by omega) (by omega) (by omega) h1 (by omega))
 ·rcases h2 with h2 | ⟨h2, e2⟩
  ·exact .inl (frac_lt' (c := 2 * m + 1) (by omega) (by omega) (by omega) (Int.le_of_eq h1) h2)
  ·refine .inr ⟨?_, by omega⟩
   have a1 := frac_le (c := 2 * m + 1) (by omega) (by omega) (by omega) (Int.le_of_eq h1) (Int.le_of_eq h2)
   have a2 := frac_le (A := at0 b.sh l) (a := 2 * n + 1) (B := at0 b.sh j) (c := 2 * m + 1) (C := at0 b.sh i) (d := 2 * k + 1) (by omega) (by omega) (by omega) (Int.le_of_eq h2.symm) (Int.le_of_eq h1.symm)
   omega
theorem prc_self {b : Bx} {i : Nat} {k m : Int} (hs : 0 < at0 b.sh i) (h : k < m) : prc b i k i m := by
 unfold prc
 left
 exact Int.mul_lt_mul_of_pos_left (by omega) hs
theorem nxtF_spec {b : Bx} (hv : BV b) {h : List Int} (h0 : ∀ i, i < b.sh.length → 0 ≤ at0 h i) : ∀ k, k ≤ b.sh.length →
  (nxtF b h k = -1 ∧ ∀ i, i < k → ¬ opn b h i) ∨ (∃ r : Nat, nxtF b h k = r ∧ r < k ∧ opn b h r ∧ ∀ i, i < k → opn b h i → i ≠ r → prc b r (at0 h r) i (at0 h i))
 | 0, _ => .inl ⟨rfl, fun i hi => by omega⟩
 | k + 1, hk => by
  have ih := nxtF_spec hv h0 k (by omega)
  rw [nxtF_succ]
  unfold nxt1
  by_cases hc : at0 b.sh k = 0 ∨ at0 b.mo k ≤ at0 h k
  ·rw [if_pos hc]
   have hcl : ¬ opn b h k := by unfold opn; omega
   rcases ih with ⟨e, ih⟩ | ⟨r, e, hr, ho, ih⟩
   ·refine .inl ⟨e, fun i hi => ?_⟩
    rcases Nat.lt_or_ge i k with h1 | h1
    ·exact ih i h1
    ·obtain rfl : i = k := by omega
     exact hcl
   ·refine .inr ⟨r, e, by omega, ho, fun i hi hoi hne => ?_⟩
    rcases Nat.lt_or_ge i k with h1 | h1
    ·exact ih i h1 hoi hne
    ·obtain rfl : i = k := by omega
     exact absurd hoi hcl
  ·rw [if_neg hc]
   have hok : opn b h k := by unfold opn; omega
   rcases ih with ⟨e, ih⟩ | ⟨r, e, hr, ho, ih⟩
   ·rw [if_pos (.inl (by omega))]
    refine .inr ⟨k, rfl, by omega, hok, fun i hi hoi hne => ?_⟩
    exact absurd hoi (ih i (by omega))
   ·rw [e, Int.toNat_natCast]
    by_cases hlt : (r : Int) < 0 ∨ at0 b.sh r * (2 * at0 h k + 1) < at0 b.sh k * (2 * at0 h r + 1)
    ·rw [if_pos hlt]
     have hlt2 : at0 b.sh r * (2 * at0 h k + 1) < at0 b.sh k * (2 * at0 h r + 1) := by omega
     have hkr : prc b k (at0 h k) r (at0 h r) := .inl hlt2
     refine .inr ⟨k, rfl, by omega, hok, fun i hi hoi hne => ?_⟩
     have hik : i < k := by omega
     by_cases hir : i = r
     ·subst hir; exact hkr
     ·exact prc_trans (h0 k (by omega)) (h0 r (by omega)) (h0 i (by omega)) hkr (ih i hik hoi hir)
    ·rw [if_neg hlt]
     refine .inr ⟨r, rfl, by omega, ho, fun i hi hoi hne => ?_⟩
     rcases Nat.lt_or_ge i k with h1 | h1
     ·exact ih i h1 hoi hne
     ·obtain rfl : i = k := by omega
      unfold prc
      omega
structure Gd (b : Bx) (h : List Int) : Prop where
 len : h.length = b.sh.length
 lo : ∀ i, i < b.sh.length → 0 ≤ at0 h i ∧ at0 h i ≤ at0 b.mo i
 no : ∀ i, i < b.sh.length → at0 b.sh i = 0 → at0 h i = 0
 bef : ∀ q o, q < b.sh.length → o < b.sh.length → 0 < at0 h q → opn b h o → prc b q (at0 h q - 1) o (at0 h o)
theorem nxt_spec {b : Bx} (hv : BV b) {h : List Int} (hg : Gd b h) :
  (nxt b h = -1 ∧ ∀ i, i < b.sh.length → ¬ opn b h i) ∨ (∃ r : Nat, nxt b h = r ∧ r < b.sh.length ∧ opn b h r ∧ ∀ i, i < b.sh.length → opn b h i → i ≠ r → prc b r (at0 h r) i (at0 h i)) :=
 nxtF_spec hv (fun i hi => (hg.lo i hi).1) _ (Nat.le_refl _)
theorem inc_at {b : Bx} {h : List Int} (hl : h.length = b.sh.length) {r : Nat} (hr : r < b.sh.length) (i : Nat) : at0 (inc h r) i = if r = i then at0 h r + 1 else at0 h i := by
 unfold inc
 rw [if_neg (by omega), Int.toNat_natCast, at0_set (by omega)]
theorem inc_neg (h : List Int) : inc h (-1) = h := by simp [inc]
theorem inc_len (h : List Int) (q : Int) : (inc h q).length = h.length := by
 unfold inc
 split <;> simp
theorem gd_step {b : Bx} (hv : BV b) {h : List Int} (hg : Gd b h) : Gd b (inc h (nxt b h)) := by
 rcases nxt_spec hv hg with ⟨e, _⟩ | ⟨r, e, hr, ho, hb⟩
 ·rw [e, inc_neg]; exact hg
 ·rw [e]
  have ha := fun i => inc_at hg.len hr (i := i)
  have hsr := hv.s0 r hr
  obtain ⟨ho1, ho2⟩ := ho
  refine ⟨by rw [inc_len]; exact hg.len, fun i hi => ?_, fun i hi hs => ?_, fun q o hq hoL hp hop => ?_⟩
  ·rw [ha]
   have := hg.lo i hi
   split
   ·rename_i e; subst e; omega
   ·exact this
  ·rw [ha]
   have := hg.no i hi hs
   split
   ·rename_i e; subst e; omega
   ·exact this
  ·rw [ha] at hp ⊢
   have hq0 := hg.lo q hq
   have ho0 := hg.lo o hoL
   obtain ⟨p1, p2⟩ := hop
   rw [ha] at p2
   have hso := hv.s0 o hoL
   by_cases hqr : r = q
   ·subst hqr
    rw [if_pos rfl, show at0 h r + 1 - 1 = at0 h r by omega, ha]
    by_cases hor : r = o
    ·subst hor
     rw [if_pos rfl]
     exact prc_self (by omega) (by omega)
    ·rw [if_neg hor] at p2 ⊢
     exact hb o hoL ⟨p1, p2⟩ (by omega)
   ·rw [if_neg hqr] at hp ⊢
    rw [ha]
    by_cases hor : r = o
    ·subst hor
     rw [if_pos rfl]
     have h1 := hg.bef q r hq hr hp ⟨ho1, ho2⟩
     exact prc_trans (by omega) (by omega) (by omega) h1 (prc_self (by omega) (by omega))
    ·rw [if_neg hor] at p2 ⊢
     exact hg.bef q o hq hoL hp ⟨p1, p2⟩
theorem at0_rep (n i : Nat) : at0 (List.replicate n (0 : Int)) i = 0 := by
 unfold at0
 rw [List.getElem?_replicate]
 split <;> rfl
theorem gd_has {b : Bx} (hv : BV b) : ∀ k, Gd b (hasL b k)
 | 0 => by
  refine ⟨by simp [hasL], fun i hi => ?_, fun i hi _ => ?_, fun q o hq ho hp => ?_⟩
  ·simp only [hasL, at0_rep]
   have := hv.m0 i hi
   omega
  ·simp only [hasL, at0_rep]
  ·simp only [hasL, at0_rep] at hp
   omega
 | k + 1 => gd_step hv (gd_has hv k)
def sumI (l : List Int) : Int := l.foldl (· + ·) 0
theorem foldl_add (l : List Int) (a : Int) : l.foldl (· + ·) a = a + sumI l := by
 unfold sumI
 induction l generalizing a with
 | nil => simp
 | cons x r ih =>
  simp only [List.foldl_cons]
  rw [ih (a + x), ih (0 + x)]
  omega
theorem sumI_nil : sumI [] = 0 := rfl
theorem sumI_cons (x : Int) (l : List Int) : sumI (x :: l) = x + sumI l := by
 show (x :: l).foldl (· + ·) 0 = _
 rw [List.foldl_cons, foldl_add]
 omega
theorem sumI_app (l k : List Int) : sumI (l ++ k) = sumI l + sumI k := by
 induction l with
 | nil => simp [sumI_nil]
 | cons x r ih => rw [List.cons_append, sumI_cons, sumI_cons, ih]; omega
theorem sumI_set (l : List Int) (i : Nat) (x : Int) (h : i < l.length) : sumI (l.set i x) = sumI l - at0 l i + x := by
 induction l generalizing i with
 | nil => simp at h
 | cons y r ih =>
  cases i with
  | zero => simp only [List.set_cons_zero, sumI_cons]; simp [at0]; omega
  | succ i =>
   simp only [List.set_cons_succ, sumI_cons]
   rw [ih i (by simpa using h)]
   have : at0 (y :: r) (i + 1) = at0 r i := by simp [at0]
   rw [this]
   omega
theorem sumI_rep (n : Nat) : sumI (List.replicate n (0 : Int)) = 0 := by
 induction n with
 | zero => rfl
 | succ n ih => rw [List.replicate_succ, sumI_cons, ih]; rfl
theorem sum_step {b : Bx} (hv : BV b) {h : List Int} (hg : Gd b h) : sumI (inc h (nxt b h)) = if nxt b h < 0 then sumI h else sumI h + 1 := by
 rcases nxt_spec hv hg with ⟨e, _⟩ | ⟨r, e, hr, ho, hb⟩
 ·rw [e, inc_neg, if_pos (by omega)]
 ·rw [e, if_neg (by omega)]
  unfold inc
  rw [if_neg (by omega), Int.toNat_natCast, sumI_set _ _ _ (by rw [hg.len]; exact hr)]
  omega
theorem sum_has {b : Bx} (hv : BV b) : ∀ k, 0 ≤ sumI (hasL b k) ∧ sumI (hasL b k) ≤ k
 | 0 => by simp [hasL, sumI_rep]
 | k + 1 => by
  have ih := sum_has hv k
  have := sum_step hv (gd_has hv k)
  show 0 ≤ sumI (inc _ _) ∧ sumI (inc _ _) ≤ _
  rw [this]
  split <;> omega
end Go.Proofs.YtpangdaijhiohaaGreatDoor.Mo

set_option linter.unusedSimpArgs false
set_option linter.unusedVariables false
set_option linter.unnecessarySimpa false
namespace Go.Proofs.YtpangdaijhiohaaGreatDoor.Mo
structure Mre (b b' : Bx) (q : Nat) : Prop where
 lt : q < b.sh.length
 len : b'.sh.length = b.sh.length
 sq : at0 b.sh q ≤ at0 b'.sh q
 mq : at0 b.mo q ≤ at0 b'.mo q
 so : ∀ i, i ≠ q → at0 b'.sh i = at0 b.sh i
 mo : ∀ i, i ≠ q → at0 b'.mo i = at0 b.mo i
end Go.Proofs.YtpangdaijhiohaaGreatDoor.Mo

set_option linter.unusedSimpArgs false
set_option linter.unusedVariables false
set_option linter.unnecessarySimpa false
namespace Go.Proofs.YtpangdaijhiohaaGreatDoor.Mo
def bfr (r : Nat → Int) (i j : Nat) : Prop := r j < r i ∨ (r j = r i ∧ i < j)
instance (r : Nat → Int) (i j : Nat) : Decidable (bfr r i j) := by unfold bfr; exact inferInstance
def swp (d : List Nat) (j : Nat) : List Nat := (d.set j (d[j - 1]?.getD 0)).set (j - 1) (d[j]?.getD 0)
def bub (r : Nat → Int) : Nat → List Nat → List Nat
 | 0, d => d
 | j + 1, d => if r (d[j]?.getD 0) < r (d[j + 1]?.getD 0) then bub r j (swp d (j + 1)) else d
def srt (r : Nat → Int) (d : List Nat) (k : Nat) : List Nat := (List.range k).foldl (fun d i => bub r (i + 1) d) d
theorem swp_len (d : List Nat) (j : Nat) : (swp d j).length = d.length := by simp [swp]
theorem bub_len (r : Nat → Int) : ∀ j d, (bub r j d).length = d.length
 | 0, d => rfl
 | j + 1, d => by
  unfold bub
  split
  ·rw [bub_len r j, swp_len]
  ·rfl
theorem srt_succ (r : Nat → Int) (d : List Nat) (k : Nat) : srt r d (k + 1) = bub r (k + 1) (srt r d k) := by
 unfold srt
 rw [List.range_succ, List.foldl_append]
 rfl
theorem srt_len (r : Nat → Int) (d : List Nat) : ∀ k, (srt r d k).length = d.length
 | 0 => rfl
 | k + 1 => by rw [srt_succ, bub_len, srt_len r d k]
theorem swp_perm (d : List Nat) (j : Nat) (hj : j + 1 < d.length) : (swp d (j + 1)).Perm d := by
 unfold swp
 simp only [Nat.add_sub_cancel]
 induction j generalizing d with
 | zero =>
  match d, hj with
  | a :: b :: l, _ => exact List.Perm.swap a b l
 | succ j ih =>
  match d, hj with
  | a :: l, hj =>
   have := ih l (by simpa using hj)
   simp only [List.getElem?_cons_succ, List.set_cons_succ]
   exact this.cons a
theorem bub_perm (r : Nat → Int) : ∀ j d, j < d.length → (bub r j d).Perm d
 | 0, d, _ => List.Perm.refl _
 | j + 1, d, hj => by
  unfold bub
  split
  ·exact (bub_perm r j _ (by rw [swp_len]; omega)).trans (swp_perm d j hj)
  ·exact List.Perm.refl _
theorem srt_perm (r : Nat → Int) (d : List Nat) : ∀ k, k < d.length ∨ k = 0 → (srt r d k).Perm d
 | 0, _ => List.Perm.refl _
 | k + 1, hk => by
  rw [srt_succ]
  exact (bub_perm r (k + 1) _ (by rw [srt_len]; omega)).trans (srt_perm r d k (by omega))
abbrev nth (d : List Nat) (i : Nat) : Nat := d[i]?.getD 0
def srtN (r : Nat → Int) (n : Nat) : List Nat := srt r (List.range n) (n - 1)
theorem srtN_len (r : Nat → Int) (n : Nat) : (srtN r n).length = n := by unfold srtN; rw [srt_len, List.length_range]
end Go.Proofs.YtpangdaijhiohaaGreatDoor.Mo

set_option linter.unusedSimpArgs false
set_option linter.unusedVariables false
set_option linter.unnecessarySimpa false
namespace Go.Proofs.YtpangdaijhiohaaGreatDoor.Mo
end Go.Proofs.YtpangdaijhiohaaGreatDoor.Mo

set_option linter.unusedSimpArgs false
set_option linter.unusedVariables false
set_option linter.unnecessarySimpa false
namespace Go.Proofs.YtpangdaijhiohaaGreatDoor.Mo
open Go Go.V
theorem hmix : Tryz.prog.follows .mixedOrders = true := by kernel_rfl
abbrev IS (l : List Int) : AV := .sl 1 (l.map .int) .sh
abbrev MB (b : Bx) : AV := .agg [IS b.sh, IS b.mo]
def within (n lo hi : Int) : Bool := decide (lo ≤ n ∧ n ≤ hi)
theorem c130 (n lo hi : Int) : Ctr Tryz.prog 130 [.int n, .int lo, .int hi] (.bool (within n lo hi)) := by
 refine ctr_of_wp hmix Tryz.func130 m130 rfl ?_
 unfold v130
 simp -failIfUnchanged (disch := first|omega|(simp<;>omega)|fail) only [go_sem,simprocAttr]
 refine WGd_bool (fun h => ?_) (fun h => ?_)
 ·simp -failIfUnchanged (disch := first|omega|(simp<;>omega)|fail) only [go_sem,simprocAttr, h]
  simp only [decide_eq_true_eq] at h
  simp [within, h]
 ·simp -failIfUnchanged (disch := first|omega|(simp<;>omega)|fail) only [go_sem,simprocAttr, h]
  simp only [Bool.not_true, decide_eq_false_iff_not] at h
  simp [within, h]
theorem c8 (n lo hi : Int) : Ctr Tryz.prog 8 [.int n, .int lo, .int hi] (.bool (within n lo hi)) := by
 refine ctr_of_wp hmix Tryz.func8 m8 rfl ?_
 unfold v8
 simp -failIfUnchanged (disch := first|omega|(simp<;>omega)|fail) only [go_sem,simprocAttr]
 refine WGd_bool (fun h => ?_) (fun h => ?_)
 ·simp -failIfUnchanged (disch := first|omega|(simp<;>omega)|fail) only [go_sem,simprocAttr, h]
  simp only [decide_eq_true_eq] at h
  simp [within, h]
 ·simp -failIfUnchanged (disch := first|omega|(simp<;>omega)|fail) only [go_sem,simprocAttr, h]
  simp only [Bool.not_true, decide_eq_false_iff_not] at h
  simp [within, h]
theorem c78 (n lo hi : Int) : Ctr Tryz.prog 78 [.int n, .int lo, .int hi] (.bool (within n lo hi)) := by
 refine ctr_of_wp hmix Tryz.func78 m78 rfl ?_
 unfold v78
 simp -failIfUnchanged (disch := first|omega|(simp<;>omega)|fail) only [go_sem,simprocAttr]
 refine wcall (c8 _ _ _) ?_
 simp -failIfUnchanged (disch := first|omega|(simp<;>omega)|fail) only [go_sem,simprocAttr]
theorem c80 (n : Int) : Ctr Tryz.prog 80 [.int n] (.bool (within n 0 40)) := by
 refine ctr_of_wp hmix Tryz.func80 m80 rfl ?_
 unfold v80
 simp -failIfUnchanged (disch := first|omega|(simp<;>omega)|fail) only [go_sem,simprocAttr]
 refine wcall (c130 _ _ _) ?_
 simp -failIfUnchanged (disch := first|omega|(simp<;>omega)|fail) only [go_sem,simprocAttr]
theorem c30 (n : Int) : Ctr Tryz.prog 30 [.int n] (.bool (within n 0 40)) := by
 refine ctr_of_wp hmix Tryz.func30 m30 rfl ?_
 unfold v30
 simp -failIfUnchanged (disch := first|omega|(simp<;>omega)|fail) only [go_sem,simprocAttr]
 refine wcall (c78 _ _ _) ?_
 simp -failIfUnchanged (disch := first|omega|(simp<;>omega)|fail) only [go_sem,simprocAttr]
theorem c47 (a b : List Int) (ha : a.length < 4294967296) : Ctr Tryz.prog 47 [IS a, IS b] (.bool (decide (a = b))) := by
 refine ctr_of_wp hmix Tryz.func47 m47 rfl ?_
 unfold v47 IS
 simp -failIfUnchanged (disch := first|omega|(simp<;>omega)|fail) only [go_sem,simprocAttr]
 refine wcond_dec (fun h => ?_) (fun h => ?_)
 ·simp -failIfUnchanged (disch := first|omega|(simp<;>omega)|fail) only [go_sem,simprocAttr]
  have : a ≠ b := fun e => by subst e; simp at h
  simp [this]
 ·simp -failIfUnchanged (disch := first|omega|(simp<;>omega)|fail) only [go_sem,simprocAttr]
  refine wp_loop' Nat (fun i => ⟨[(0, IS a), (1, IS b), (5, .int i)], [], [], none⟩) (fun i => i ≤ a.length ∧ a.take i = b.take i) (fun i => a.length - i) 0 (by simp) (by unfold IS; simp -failIfUnchanged (disch := first|omega|(simp<;>omega)|fail) only [go_sem,simprocAttr]; try rfl) ?_
  rintro i ⟨hi, hpre⟩
  unfold IS
  simp -failIfUnchanged (disch := first|omega|(simp<;>omega)|fail) only [go_sem,simprocAttr]
  have hl : a.length = b.length := by omega
  refine wcond_dec (fun h => ?_) (fun h => ?_)
  ·simp -failIfUnchanged (disch := first|omega|(simp<;>omega)|fail) only [go_sem,simprocAttr]
   have e1 : a[i]? = some a[i] := List.getElem?_eq_getElem (by omega)
   have e2 : b[i]? = some b[i] := List.getElem?_eq_getElem (by omega)
   rw [e1, e2]
   simp -failIfUnchanged (disch := first|omega|(simp<;>omega)|fail) only [go_sem,simprocAttr]
   refine wcond_dec (fun h => ?_) (fun h => ?_)
   ·simp -failIfUnchanged (disch := first|omega|(simp<;>omega)|fail) only [go_sem,simprocAttr]
    have : a ≠ b := fun e => by subst e; simp at h
    simp [this]
   ·simp -failIfUnchanged (disch := first|omega|(simp<;>omega)|fail) only [go_sem,simprocAttr]
    refine ⟨i + 1, ⟨by omega, ?_⟩, by dsimp only; omega, ?_⟩
    ·rw [List.take_add_one, List.take_add_one, hpre, e1, e2]
     simp only [Decidable.not_not] at h
     rw [h]
    ·simp -failIfUnchanged (disch := first|omega|(simp<;>omega)|fail) only [go_sem,simprocAttr]
     simp
  ·simp -failIfUnchanged (disch := first|omega|(simp<;>omega)|fail) only [go_sem,simprocAttr]
   have e : i = a.length := by omega
   have : a = b := by
    rw [e, List.take_length, hl, List.take_length] at hpre
    exact hpre
   simp [this]
theorem c39 (l : List Int) (n : Int) (hl : l.length < 4294967296) : Ctr Tryz.prog 39 [IS l, .int n] (.bool (decide (n ∈ l))) := by
 refine ctr_of_wp hmix Tryz.func39 m39 rfl ?_
 unfold v39 IS
 simp -failIfUnchanged (disch := first|omega|(simp<;>omega)|fail) only [go_sem,simprocAttr]
 refine wp_loop' Nat (fun i => ⟨[(0, IS l), (1, .int n), (5, .int i)], [], [], none⟩) (fun i => i ≤ l.length ∧ n ∉ l.take i) (fun i => l.length - i) 0 (by simp) (by unfold IS; simp -failIfUnchanged (disch := first|omega|(simp<;>omega)|fail) only [go_sem,simprocAttr]; try rfl) ?_
 rintro i ⟨hi, hpre⟩
 unfold IS
 simp -failIfUnchanged (disch := first|omega|(simp<;>omega)|fail) only [go_sem,simprocAttr]
 refine wcond_dec (fun h => ?_) (fun h => ?_)
 ·have hlt : i < l.length := by omega
  have e1 : l[i]? = some l[i] := List.getElem?_eq_getElem hlt
  simp -failIfUnchanged (disch := first|omega|(simp<;>omega)|fail) only [go_sem,simprocAttr]
  rw [e1]
  simp -failIfUnchanged (disch := first|omega|(simp<;>omega)|fail) only [go_sem,simprocAttr]
  refine wcond_dec (fun h => ?_) (fun h => ?_)
  ·simp -failIfUnchanged (disch := first|omega|(simp<;>omega)|fail) only [go_sem,simprocAttr]
   have : n ∈ l := by rw [← h]; exact List.getElem_mem _
   simp [this]
  ·simp -failIfUnchanged (disch := first|omega|(simp<;>omega)|fail) only [go_sem,simprocAttr]
   refine ⟨i + 1, ⟨by omega, ?_⟩, by dsimp only; omega, ?_⟩
   ·rw [List.take_add_one, e1, List.mem_append]
    rintro (h2 | h2)
    ·exact hpre h2
    ·simp at h2; exact h h2.symm
   ·simp -failIfUnchanged (disch := first|omega|(simp<;>omega)|fail) only [go_sem,simprocAttr]
    simp
 ·simp -failIfUnchanged (disch := first|omega|(simp<;>omega)|fail) only [go_sem,simprocAttr]
  have e : i = l.length := by omega
  rw [e, List.take_length] at hpre
  simp [hpre]
def idxF {α : Type} (p : α → Bool) (l : List α) : Int := if l.any p then l.findIdx p else -1
theorem idxF_hit {α : Type} [Inhabited α] {p : α → Bool} {l : List α} {i : Nat} (hi : i < l.length) (hpre : ∀ x ∈ l.take i, p x = false) (h : p (l[i]?.getD default) = true) : idxF p l = i := by
 have e : l[i]?.getD default = l[i] := by simp [hi]
 rw [e] at h
 have hany : l.any p = true := List.any_eq_true.2 ⟨l[i], List.getElem_mem hi, h⟩
 have : l.findIdx p = i := by
  rw [List.findIdx_eq hi]
  refine ⟨h, fun j hj => ?_⟩
  refine hpre _ ?_
  have hj2 : j < l.length := by omega
  have : (l.take i)[j]'(by simp; omega) = l[j] := List.getElem_take
  rw [← this]
  exact List.getElem_mem _
 simp [idxF, hany, this]
theorem idxF_miss {α : Type} {p : α → Bool} {l : List α} (hpre : ∀ x ∈ l, p x = false) : idxF p l = -1 := by
 have : l.any p = false := List.any_eq_false.2 fun x hx => by simp [hpre x hx]
 simp [idxF, this]
theorem idxF_geq {α : Type} {p : α → Bool} {l : List α} : decide ((0 : Int) ≤ idxF p l) = l.any p := by
 unfold idxF
 cases l.any p <;> simp
theorem take_succ_all {α : Type} [Inhabited α] {p : α → Bool} {l : List α} {i : Nat} (hi : i < l.length) (hpre : ∀ x ∈ l.take i, p x = false) (h : p (l[i]?.getD default) = false) : ∀ x ∈ l.take (i + 1), p x = false := by
 intro x hx
 rw [List.take_add_one] at hx
 rcases List.mem_append.1 hx with hx | hx
 ·exact hpre x hx
 ·have e : l[i]? = some l[i] := List.getElem?_eq_getElem hi
  rw [e] at hx h
  simp at hx h
  rw [hx]; exact h
theorem mem_getD {α : Type} [Inhabited α] {l : List α} {i : Nat} (hi : i < l.length) : l[i]?.getD default ∈ l := by
 simp [hi]
theorem c146 (l : List Int) (g : Nat) (caps : List AV) (p : Int → Bool) (hp : ∀ x ∈ l, Ctr Tryz.prog g ([.int x] ++ caps) (.bool (p x))) (hl : l.length < 4294967296) :
  Ctr Tryz.prog 146 [IS l, .clo g [] caps] (.int (idxF p l)) := by
 refine ctr_of_wp hmix Tryz.func146 m146 rfl ?_
 unfold v146 IS
 simp -failIfUnchanged (disch := first|omega|(simp<;>omega)|fail) only [go_sem,simprocAttr]
 refine wp_loop' Nat (fun i => ⟨[(0, IS l), (1, .clo g [] caps), (7, .int l.length), (8, .int i)], [], [], none⟩) (fun i => i ≤ l.length ∧ ∀ x ∈ l.take i, p x = false) (fun i => l.length - i) 0 (by simp) (by unfold IS; simp -failIfUnchanged (disch := first|omega|(simp<;>omega)|fail) only [go_sem,simprocAttr]; try rfl) ?_
 rintro i ⟨hi, hpre⟩
 unfold IS
 simp -failIfUnchanged (disch := first|omega|(simp<;>omega)|fail) only [go_sem,simprocAttr]
 refine wcond_dec (fun h => ?_) (fun h => ?_)
 ·simp -failIfUnchanged (disch := first|omega|(simp<;>omega)|fail) only [go_sem,simprocAttr]
  have hlt : i < l.length := by omega
  refine wcall (hp _ (mem_getD hlt)) ?_
  simp -failIfUnchanged (disch := first|omega|(simp<;>omega)|fail) only [go_sem,simprocAttr]
  refine wcond_bool (fun hb => ?_) (fun hb => ?_)
  ·simp -failIfUnchanged (disch := first|omega|(simp<;>omega)|fail) only [go_sem,simprocAttr]
   rw [idxF_hit hlt hpre hb]
  ·simp -failIfUnchanged (disch := first|omega|(simp<;>omega)|fail) only [go_sem,simprocAttr]
   refine ⟨i + 1, ⟨by omega, take_succ_all hlt hpre hb⟩, by dsimp only; omega, ?_⟩
   simp -failIfUnchanged (disch := first|omega|(simp<;>omega)|fail) only [go_sem,simprocAttr]
   try simp
 ·simp -failIfUnchanged (disch := first|omega|(simp<;>omega)|fail) only [go_sem,simprocAttr]
  have e : i = l.length := by omega
  rw [idxF_miss]
  rw [e, List.take_length] at hpre
  exact hpre
theorem c119 (l : List Int) (g : Nat) (caps : List AV) (p : Int → Bool) (hp : ∀ x ∈ l, Ctr Tryz.prog g ([.int x] ++ caps) (.bool (p x))) (hl : l.length < 4294967296) :
  Ctr Tryz.prog 119 [IS l, .clo g [] caps] (.bool (l.any p)) := by
 refine ctr_of_wp hmix Tryz.func119 m119 rfl ?_
 unfold v119 IS
 simp -failIfUnchanged (disch := first|omega|(simp<;>omega)|fail) only [go_sem,simprocAttr]
 refine wcall (c146 l g caps p hp hl) ?_
 simp -failIfUnchanged (disch := first|omega|(simp<;>omega)|fail) only [go_sem,simprocAttr]
 rw [idxF_geq]
def areB (most : Int) (l : List Int) : Bool := !l.any fun n => !within n 0 most
theorem c166 (n most : Int) : Ctr Tryz.prog 166 [.int n, .ref 1 [.agg [.int most]] 0 0] (.bool (!within n 0 most)) := by
 refine ctr_of_wp hmix Tryz.func166 m166 rfl ?_
 unfold v166
 simp -failIfUnchanged (disch := first|omega|(simp<;>omega)|fail) only [go_sem,simprocAttr]
 refine wcall (c130 _ _ _) ?_
 simp -failIfUnchanged (disch := first|omega|(simp<;>omega)|fail) only [go_sem,simprocAttr]
theorem c153 (most : Int) (l : List Int) (hl : l.length < 4294967296) : Ctr Tryz.prog 153 [.int most, IS l] (.bool (areB most l)) := by
 refine ctr_of_wp hmix Tryz.func153 m153 rfl ?_
 unfold v153 IS
 simp -failIfUnchanged (disch := first|omega|(simp<;>omega)|fail) only [go_sem,simprocAttr]
 refine wcall (c119 l 166 _ (fun n => !within n 0 most) (fun x _ => c166 x most) hl) ?_
 simp -failIfUnchanged (disch := first|omega|(simp<;>omega)|fail) only [go_sem,simprocAttr]
 rfl
end Go.Proofs.YtpangdaijhiohaaGreatDoor.Mo

set_option linter.unusedSimpArgs false
set_option linter.unusedVariables false
set_option linter.unnecessarySimpa false
namespace Go.Proofs.YtpangdaijhiohaaGreatDoor.Mo
open Go Go.V
abbrev gC (b : Bx) (hs : List Int) : List AV := IS b.sh :: IS b.mo :: hs.map .int
theorem gC_get (b : Bx) (hs : List Int) (i : Nat) (h : i < hs.length) : (gC b hs)[2 + i]?.getD .und = .int (at0 hs i) := by
 rw [show 2 + i = i + 1 + 1 by omega]
 simp [h, at0]
theorem gC_set (b : Bx) (hs : List Int) (i : Nat) (x : Int) (h : i < hs.length) : setAt (gC b hs) (2 + i) [.int x] = gC b (hs.set i x) := by
 rw [show 2 + i = i + 1 + 1 by omega]
 simp only [setAt_s]
 congr 2
 induction hs generalizing i with
 | nil => simp at h
 | cons a r ih =>
  cases i with
  | zero => simp [setAt]
  | succ i => simp only [List.map_cons, setAt_s, List.set_cons_succ]; rw [ih i (by simpa using h)]
theorem prod_bd {s h : Int} (h1 : 0 ≤ s ∧ s ≤ 20) (h2 : 0 ≤ h ∧ h ≤ 100) : 0 ≤ s * (2 * h + 1) ∧ s * (2 * h + 1) ≤ 5000 := by
 have a := Int.mul_nonneg h1.1 (show 0 ≤ 2 * h + 1 by omega)
 have b : s * (2 * h + 1) ≤ 20 * (2 * h + 1) := Int.mul_le_mul_of_nonneg_right h1.2 (by omega)
 omega
theorem nxtF_lt (b : Bx) (hs : List Int) : ∀ k, nxtF b hs k = -1 ∨ ∃ r : Nat, nxtF b hs k = r ∧ r < k
 | 0 => .inl rfl
 | k + 1 => by
  rw [nxtF_succ]
  unfold nxt1
  have ih := nxtF_lt b hs k
  split
  ·rcases ih with h | ⟨r, h, hr⟩
   ·exact .inl h
   ·exact .inr ⟨r, h, by omega⟩
  ·split
   ·exact .inr ⟨k, rfl, by omega⟩
   ·rcases ih with h | ⟨r, h, hr⟩
    ·exact .inl h
    ·exact .inr ⟨r, h, by omega⟩
theorem c154 (b : Bx) (hv : BV b) (hs : List Int) (hl : hs.length = 5) (hb : ∀ i, 0 ≤ at0 hs i ∧ at0 hs i ≤ 100) : Ctr Tryz.prog 154 [.ref 7 [.agg (gC b hs)] 0 0] (.int (nxt b hs)) := by
 refine ctr_of_wp hmix Tryz.func154 m154 rfl ?_
 unfold v154
 have n5 := hv.n5
 have hmo := hv.len
 simp -failIfUnchanged (disch := first|omega|(simp<;>omega)|fail) only [go_sem,simprocAttr]
 refine wp_loop' Nat (fun i => ⟨[(0, .ref 7 [.agg (gC b hs)] 0 0), (3, .int (nxtF b hs i)), (10, IS b.sh), (11, .int b.sh.length), (12, .int i)], [], [], none⟩) (fun i => i ≤ b.sh.length) (fun i => b.sh.length - i) 0 (by simp) (by simp -failIfUnchanged (disch := first|omega|(simp<;>omega)|fail) only [go_sem,simprocAttr]; simp [nxtF]) ?_
 intro i hi
 simp -failIfUnchanged (disch := first|omega|(simp<;>omega)|fail) only [go_sem,simprocAttr]
 refine wcond_dec (fun h => ?_) (fun h => ?_)
 ·have hlt : i < b.sh.length := by omega
  have hs0 := hv.s0 i hlt
  have hh0 := hb i
  have hsucc := nxtF_succ b hs i
  unfold nxt1 at hsucc
  simp -failIfUnchanged (disch := first|omega|(simp<;>omega)|fail) only [go_sem,simprocAttr]
  refine WGd_bool (fun h3 => ?_) (fun h3 => ?_)
  ·have h3' : at0 b.sh i ≠ 0 := of_decide_eq_false h3
   simp -failIfUnchanged (disch := first|omega|(simp<;>omega)|fail) only [go_sem,simprocAttr, h3, gC_get]
   refine wcond_dec (fun h4 => ?_) (fun h4 => ?_)
   ·rw [if_pos (.inr h4)] at hsucc
    simp -failIfUnchanged (disch := first|omega|(simp<;>omega)|fail) only [go_sem,simprocAttr]
    refine ⟨i + 1, by dsimp only; omega, by dsimp only; omega, ?_⟩
    dsimp only
    rw [hsucc]
    simp -failIfUnchanged (disch := first|omega|(simp<;>omega)|fail) only [go_sem,simprocAttr]
    try simp
   ·rw [if_neg (fun c => c.elim h3' h4)] at hsucc
    simp -failIfUnchanged (disch := first|omega|(simp<;>omega)|fail) only [go_sem,simprocAttr]
    refine WGd_bool (fun h5 => ?_) (fun h5 => ?_)
    ·have h5' : ¬ nxtF b hs i < 0 := by simpa using h5
     obtain ⟨r, hr, hri⟩ : ∃ r : Nat, nxtF b hs i = r ∧ r < i := by
      rcases nxtF_lt b hs i with h | h
      ·omega
      ·exact h
     have hsr := hv.s0 r (by omega)
     have hhr := hb r
     have p1 := prod_bd hs0 hhr
     have p2 := prod_bd hsr hh0
     rw [hr] at hsucc h5 ⊢
     have e1 : w64 (at0 b.sh r * (2 * at0 hs i + 1)) = at0 b.sh r * (2 * at0 hs i + 1) := w64_id (by omega)
     have e2 : w64 (at0 b.sh i * (2 * at0 hs r + 1)) = at0 b.sh i * (2 * at0 hs r + 1) := w64_id (by omega)
     rw [Int.toNat_natCast] at hsucc
     simp -failIfUnchanged (disch := first|omega|(simp<;>omega)|fail) only [go_sem,simprocAttr, h5, gC_get]
     rw [e1, e2]
     refine wcond_dec (fun h6 => ?_) (fun h6 => ?_)
     ·rw [if_pos (.inr h6)] at hsucc
      simp -failIfUnchanged (disch := first|omega|(simp<;>omega)|fail) only [go_sem,simprocAttr]
      refine ⟨i + 1, by dsimp only; omega, by dsimp only; omega, ?_⟩
      dsimp only
      rw [hsucc]
      simp -failIfUnchanged (disch := first|omega|(simp<;>omega)|fail) only [go_sem,simprocAttr]
      try simp
     ·rw [if_neg (by omega)] at hsucc
      simp -failIfUnchanged (disch := first|omega|(simp<;>omega)|fail) only [go_sem,simprocAttr]
      refine ⟨i + 1, by dsimp only; omega, by dsimp only; omega, ?_⟩
      dsimp only
      rw [hsucc]
      simp -failIfUnchanged (disch := first|omega|(simp<;>omega)|fail) only [go_sem,simprocAttr]
      try simp
    ·rw [if_pos (.inl (by simpa using h5))] at hsucc
     simp -failIfUnchanged (disch := first|omega|(simp<;>omega)|fail) only [go_sem,simprocAttr, h5]
     refine ⟨i + 1, by dsimp only; omega, by dsimp only; omega, ?_⟩
     dsimp only
     rw [hsucc]
     simp -failIfUnchanged (disch := first|omega|(simp<;>omega)|fail) only [go_sem,simprocAttr]
     try simp
  ·rw [if_pos (.inl (of_decide_eq_true h3))] at hsucc
   simp -failIfUnchanged (disch := first|omega|(simp<;>omega)|fail) only [go_sem,simprocAttr, h3]
   refine ⟨i + 1, by dsimp only; omega, by dsimp only; omega, ?_⟩
   dsimp only
   rw [hsucc]
   simp -failIfUnchanged (disch := first|omega|(simp<;>omega)|fail) only [go_sem,simprocAttr]
   try simp
 ·simp -failIfUnchanged (disch := first|omega|(simp<;>omega)|fail) only [go_sem,simprocAttr]
  have e : i = b.sh.length := by omega
  rw [e]
  rfl
end Go.Proofs.YtpangdaijhiohaaGreatDoor.Mo

set_option linter.unusedSimpArgs false
set_option linter.unusedVariables false
set_option linter.unnecessarySimpa false
namespace Go.Proofs.YtpangdaijhiohaaGreatDoor.Mo
open Go Go.V
theorem zeros_ints (n : Nat) : zeros [.int 0] n = (List.replicate n (0 : Int)).map .int := by
 induction n with
 | zero => rfl
 | succ n ih => simp only [zeros, List.replicate_succ, List.map_cons, ih]; rfl
theorem setAt_ints {xs : List Int} {i : Nat} {x : Int} (h : i < xs.length) : setAt (xs.map .int) i [.int x] = (xs.set i x).map .int := by
 induction xs generalizing i with
 | nil => simp at h
 | cons w l ih =>
  cases i with
  | zero => rfl
  | succ i =>
   simp only [List.map_cons, setAt, List.set_cons_succ]
   rw [ih (by simpa using h)]
theorem map_ints {xs : List Int} {hp : List (Nat × BX)} : (xs.map AV.int).map (strip hp) = xs.map .int := by
 rw [List.map_map]
 rfl
theorem bids_ints {xs : List Int} : bids (xs.map AV.int) = [] := by
 induction xs with
 | nil => rfl
 | cons w l ih => simp only [List.map_cons, bids, AV.bid, AV.bid1, ih, List.append_nil]
theorem scopes_ints {τ : AS} {xs : List Int} : scopes τ (xs.map AV.int) = True := by
 induction xs with
 | nil => rfl
 | cons w l ih => simp only [List.map_cons, scopes, inScope, ih, and_self]
theorem chunks_ints {xs : List Int} {n : Nat} (h : n = xs.length) : chunks false 1 (xs.map AV.int) 0 n = xs.map .int := by
 subst h
 apply List.ext_getElem?
 intro i
 rcases Nat.lt_or_ge i xs.length with hi | hi
 ·rw [chunks_get _ _ _ _ _ _ hi]
  simp [chunk, hi]
 ·rw [List.getElem?_eq_none (by rw [chunks_length]; exact hi), List.getElem?_eq_none (by simpa using hi)]
theorem ints_get {xs : List Int} {i : Nat} (h : i < xs.length) : (xs.map AV.int)[i]?.getD .und = .int (xs[i]?.getD default) := by simp [h]
attribute [go_sem] ints_get zeros_ints setAt_ints map_ints bids_ints scopes_ints
theorem at0_has {b : Bx} (hv : BV b) (k i : Nat) : 0 ≤ at0 (hasL b k) i ∧ at0 (hasL b k) i ≤ 20 := by
 have hg := gd_has hv k
 rcases Nat.lt_or_ge i b.sh.length with h | h
 ·have := hg.lo i h
  have := hv.m0 i h
  omega
 ·have : at0 (hasL b k) i = 0 := by simp only [at0, List.getElem?_eq_none (show (hasL b k).length ≤ i by rw [hg.len]; exact h)]; rfl
  omega
theorem hasL_len {b : Bx} (hv : BV b) (k : Nat) : (hasL b k).length = b.sh.length := (gd_has hv k).len
theorem hasL_succ {b : Bx} (hv : BV b) (k : Nat) : (nxt b (hasL b k) = -1 ∧ hasL b (k + 1) = hasL b k) ∨ ∃ r : Nat, nxt b (hasL b k) = r ∧ r < b.sh.length ∧ hasL b (k + 1) = (hasL b k).set r (at0 (hasL b k) r + 1) := by
 rcases nxt_spec hv (gd_has hv k) with ⟨e, _⟩ | ⟨r, e, hr, _⟩
 ·refine .inl ⟨e, ?_⟩
  show inc _ _ = _
  rw [e, inc_neg]
 ·refine .inr ⟨r, e, hr, ?_⟩
  show inc _ _ = _
  rw [e]
  unfold inc
  rw [if_neg (by omega), Int.toNat_natCast]
theorem at0_app (h : List Int) (k i : Nat) : at0 (h ++ List.replicate k 0) i = at0 h i := by
 unfold at0
 rcases Nat.lt_or_ge i h.length with hl | hl
 ·rw [List.getElem?_append_left hl]
 ·rw [List.getElem?_append_right hl, List.getElem?_eq_none (l := h) hl, List.getElem?_replicate]
  split <;> rfl
theorem nxt_app (b : Bx) (h : List Int) (k : Nat) : nxt b (h ++ List.replicate k 0) = nxt b h := by
 unfold nxt nxtF
 congr 1
 funext x i
 unfold nxt1
 rw [at0_app, at0_app]
theorem c81 (b : Bx) (hv : BV b) (f : Nat) (hf : f ≤ 1000) : Ctr Tryz.prog 81 [MB b, .int f] (IS (hasL b f)) := by
 refine ctr_of_wp hmix Tryz.func81 m81 rfl ?_
 unfold v81
 have n5 := hv.n5
 simp -failIfUnchanged (disch := first|omega|(simp<;>omega)|fail) only [go_sem,simprocAttr]
 refine wp_range' ?_
 simp -failIfUnchanged (disch := first|omega|(simp<;>omega)|fail) only [go_sem,simprocAttr]
 refine wrange fun l T hT => ?_
 refine csem_of_wp hmix Tryz.func131 m131 rfl rfl ?_
 unfold v131
 simp -failIfUnchanged (disch := first|omega|(simp<;>omega)|fail) only [go_sem,simprocAttr]
 refine wp_loopX Nat (fun k => ⟨[(1, .yld l), (2, .ptr 1002 0), (4, .int k)],
  [(1002, ⟨gC b (hasL b k ++ List.replicate (5 - b.sh.length) 0), false⟩), (11, ⟨(hasL b k).map .int, false⟩), (5, ⟨[.bsl 11 0 1 b.sh.length false], false⟩), (3, ⟨[.int f], false⟩)], [], none⟩)
  (fun k => k ≤ f) (fun k => f - k) 0 (by simp) ?_ (fun x => by simp -failIfUnchanged (disch := first|omega|(simp<;>omega)|fail) only [go_sem,simprocAttr]) ?_
 ·simp -failIfUnchanged (disch := first|omega|(simp<;>omega)|fail) only [go_sem,simprocAttr]
  refine ⟨?_, rfl⟩
  simp only [hasL, List.replicate_append_replicate, show b.sh.length + (5 - b.sh.length) = 5 by omega]
  rfl
 intro k hk
 have hk : k ≤ f := hk
 have hl := hasL_len hv k
 have hle : (b.sh.length ≤ (hasL b k).length) = True := eq_true (by omega)
 obtain ⟨hs, hse⟩ : ∃ hs, hs = hasL b k ++ List.replicate (5 - b.sh.length) 0 := ⟨_, rfl⟩
 have hsl : hs.length = 5 := by rw [hse]; simp; omega
 have hsa : ∀ i, at0 hs i = at0 (hasL b k) i := fun i => by rw [hse, at0_app]
 have hsn : nxt b hs = nxt b (hasL b k) := by rw [hse, nxt_app]
 have c154' := c154 b hv hs hsl fun i => by have := at0_has hv k i; rw [hsa]; omega
 rw [hsn] at c154'
 rw [← hse]
 simp -failIfUnchanged (disch := first|omega|(simp<;>omega)|fail) only [go_sem,simprocAttr, hsl]
 refine wcallb c154' rfl ?_
 simp -failIfUnchanged (disch := first|omega|(simp<;>omega)|fail) only [go_sem,simprocAttr]
 refine wyield (hT _ _ _ _ _ rfl ?_)
 simp -failIfUnchanged (disch := first|omega|(simp<;>omega)|fail) only [go_sem,simprocAttr]
 refine wcond_dec (fun h1 => ?_) (fun h1 => ?_)
 ·simp -failIfUnchanged (disch := first|omega|(simp<;>omega)|fail) only [go_sem,simprocAttr]
  have e : k = f := by omega
  subst e
  simp -failIfUnchanged (disch := first|omega|(simp<;>omega)|fail) only [go_sem,simprocAttr, hle, chunks_ints]
 ·rcases hasL_succ hv k with ⟨e, es⟩ | ⟨r, e, hr, es⟩
  ·rw [e]
   simp -failIfUnchanged (disch := first|omega|(simp<;>omega)|fail) only [go_sem,simprocAttr]
   refine lpx_norm ⟨k + 1, by omega, by omega, ?_, by simp -failIfUnchanged (disch := first|omega|(simp<;>omega)|fail) only [go_sem,simprocAttr]⟩
   rw [es, ← hse]
   simp -failIfUnchanged (disch := first|omega|(simp<;>omega)|fail) only [go_sem,simprocAttr]
   try simp
  ·have hbr : 0 ≤ (hasL b k)[r]?.getD default ∧ (hasL b k)[r]?.getD default ≤ 20 := at0_has hv k r
   have hbr2 : 0 ≤ at0 hs r ∧ at0 hs r ≤ 20 := by rw [hsa]; exact hbr
   have hset : hs.set r (at0 hs r + 1) = (hasL b k).set r (at0 (hasL b k) r + 1) ++ List.replicate (5 - b.sh.length) 0 := by
    rw [hsa, hse, List.set_append_left _ _ (by omega)]
   rw [e]
   simp -failIfUnchanged (disch := first|omega|(simp<;>omega)|fail) only [go_sem,simprocAttr, gC_get, gC_set]
   refine lpx_norm ⟨k + 1, by omega, by omega, ?_, by simp -failIfUnchanged (disch := first|omega|(simp<;>omega)|fail) only [go_sem,simprocAttr]⟩
   rw [es, ← hset]
   simp -failIfUnchanged (disch := first|omega|(simp<;>omega)|fail) only [go_sem,simprocAttr]
   try simp
end Go.Proofs.YtpangdaijhiohaaGreatDoor.Mo

set_option linter.unusedSimpArgs false
set_option linter.unusedVariables false
set_option linter.unnecessarySimpa false
namespace Go.Proofs.YtpangdaijhiohaaGreatDoor.Mo
open Go Go.V
def checkB (b : Bx) : Bool := decide ((b.sh.length : Int) ≤ 5) && (decide ((b.mo.length : Int) = b.sh.length) && (areB 20 b.sh && areB 20 b.mo))
def farB (b : Bx) : Bool := decide (40 < (b.sh.length : Int)) || decide (40 < (b.mo.length : Int))
theorem within_iff {n lo hi : Int} : within n lo hi = true ↔ lo ≤ n ∧ n ≤ hi := by simp [within]
theorem ag69 : aggOf Tryz.prog 69 = some true := by kernel_rfl
theorem sz69 : szOf Tryz.prog 69 = some 2 := by kernel_rfl
theorem out1_eq {P : Program} {fr : List (Nat × AV)} {hp : List (Nat × BX)} {tk : List (Nat × Nat)} {pd : Option Ex} {t : Nat} {ty : TypeId} : out1 P ⟨fr, hp, tk, pd⟩ (.cell t ty) = (match get fr t with
  | .ptr b 0 => match getB hp b with
   | some ⟨cells, true⟩ => match aggOf P ty with
    | some true => if szOf P ty = some cells.length then .agg cells else .und
    | some false => match cells with
     | [x] => x
     | _ => .und
    | none => .und
   | _ => .und
  | _ => .und) := rfl
attribute [go_sem] ag69 sz69 out1_eq
theorem areB_iff {l : List Int} {m : Int} : areB m l = true ↔ ∀ i, i < l.length → 0 ≤ at0 l i ∧ at0 l i ≤ m := by
 simp only [areB, Bool.not_eq_true', List.any_eq_false]
 constructor
 ·intro h i hi
  have := h _ (List.getElem_mem hi)
  rw [at0_lt hi]
  exact within_iff.1 (by simpa using this)
 ·intro h x hx
  obtain ⟨i, hi, rfl⟩ := List.getElem_of_mem hx
  have := h i hi
  rw [at0_lt hi] at this
  simp [within_iff.2 this]
theorem val_of_check {b : Bx} (h : checkB b = true) : BV b := by
 simp only [checkB, Bool.and_eq_true, decide_eq_true_eq] at h
 obtain ⟨h1, h2, h3, h4⟩ := h
 exact ⟨by omega, by omega, areB_iff.1 h3, fun i hi => areB_iff.1 h4 i (by omega)⟩
theorem check_of_val {b : Bx} (h : BV b) : checkB b = true := by
 simp only [checkB, Bool.and_eq_true, decide_eq_true_eq]
 have := h.n5
 have h2 := h.len
 exact ⟨by omega, by omega, areB_iff.2 h.s0, areB_iff.2 fun i hi => h.m0 i (by omega)⟩
def errM (b : Bx) : Int := if checkB b then 0 else 70
theorem c129 (b : Bx) : Ctr Tryz.prog 129 [MB b] (.int (errM b)) := by
 refine ctr_of_wp hmix Tryz.func129 m129 rfl ?_
 unfold v129 errM checkB
 simp -failIfUnchanged (disch := first|omega|(simp<;>omega)|fail) only [go_sem,simprocAttr]
 refine WGd_bool (fun h1 => ?_) (fun h1 => ?_)
 ·have h1' : (b.sh.length : Int) ≤ 5 := by simpa using h1
  simp -failIfUnchanged (disch := first|omega|(simp<;>omega)|fail) only [go_sem,simprocAttr, h1]
  refine WGd_bool (fun h2 => ?_) (fun h2 => ?_)
  ·have h2' : (b.mo.length : Int) = b.sh.length := by simpa using h2
   have e1 : decide ((b.sh.length : Int) ≤ 5) = true := by simpa using h1'
   have e2 : decide ((b.mo.length : Int) = b.sh.length) = true := by simpa using h2'
   simp -failIfUnchanged (disch := first|omega|(simp<;>omega)|fail) only [go_sem,simprocAttr, h2]
   refine wcall (c153 20 b.sh (by omega)) ?_
   rw [e1, e2]
   cases h3 : areB 20 b.sh with
   | false => simp -failIfUnchanged (disch := first|omega|(simp<;>omega)|fail) only [go_sem,simprocAttr]
   | true =>
    simp -failIfUnchanged (disch := first|omega|(simp<;>omega)|fail) only [go_sem,simprocAttr]
    refine wcall (c153 20 b.mo (by omega)) ?_
    cases h4 : areB 20 b.mo with
    | false => simp -failIfUnchanged (disch := first|omega|(simp<;>omega)|fail) only [go_sem,simprocAttr]
    | true => simp -failIfUnchanged (disch := first|omega|(simp<;>omega)|fail) only [go_sem,simprocAttr]
  ·have e2 : decide ((b.mo.length : Int) = b.sh.length) = false := by simpa using h2
   simp -failIfUnchanged (disch := first|omega|(simp<;>omega)|fail) only [go_sem,simprocAttr, h2]
   simp [e2]
 ·have e1 : decide ((b.sh.length : Int) ≤ 5) = false := by simpa using h1
  simp -failIfUnchanged (disch := first|omega|(simp<;>omega)|fail) only [go_sem,simprocAttr, h1]
  simp [e1]
theorem areB_false {l : List Int} {i : Nat} (hi : i < l.length) (h : within (l[i]?.getD default) 0 20 = false) : areB 20 l = false := by
 simp only [areB, Bool.not_eq_false', List.any_eq_true]
 exact ⟨l[i]?.getD default, mem_getD hi, by rw [h]; rfl⟩
theorem c29 (b : Bx) : Ctr Tryz.prog 29 [MB b] (.int (errM b)) := by
 refine ctr_of_wp hmix Tryz.func29 m29 rfl ?_
 unfold v29 errM checkB
 simp -failIfUnchanged (disch := first|omega|(simp<;>omega)|fail) only [go_sem,simprocAttr]
 refine WGd_bool (fun h1 => ?_) (fun h1 => ?_)
 ·have h1' : (b.sh.length : Int) ≤ 5 := by simpa using h1
  simp -failIfUnchanged (disch := first|omega|(simp<;>omega)|fail) only [go_sem,simprocAttr, h1]
  refine wcond_dec (fun h2 => ?_) (fun h2 => ?_)
  ·have e2 : decide ((b.mo.length : Int) = b.sh.length) = false := by simpa using h2
   simp -failIfUnchanged (disch := first|omega|(simp<;>omega)|fail) only [go_sem,simprocAttr]
   simp [e2]
  ·have h2' : (b.mo.length : Int) = b.sh.length := by simpa using h2
   have e1 : decide ((b.sh.length : Int) ≤ 5) = true := by simpa using h1'
   have e2 : decide ((b.mo.length : Int) = b.sh.length) = true := by simpa using h2'
   rw [e1, e2]
   simp -failIfUnchanged (disch := first|omega|(simp<;>omega)|fail) only [go_sem,simprocAttr]
   refine wp_loop' Nat (fun i => ⟨[(1, .ptr 1 0), (3, .int i)], [(1, ⟨[IS b.sh, IS b.mo], false⟩)], [], none⟩)
    (fun i => i ≤ b.sh.length ∧ (∀ x ∈ b.sh.take i, within x 0 20 = true) ∧ ∀ x ∈ b.mo.take i, within x 0 20 = true) (fun i => b.sh.length - i) 0 (by simp) (by simp -failIfUnchanged (disch := first|omega|(simp<;>omega)|fail) only [go_sem,simprocAttr]; try simp) ?_
   rintro i ⟨hi, g1, g2⟩
   simp -failIfUnchanged (disch := first|omega|(simp<;>omega)|fail) only [go_sem,simprocAttr]
   refine wcond_dec (fun hc => ?_) (fun hc => ?_)
   ·have hlt : i < b.sh.length := by omega
    have hlt2 : i < b.mo.length := by omega
    simp -failIfUnchanged (disch := first|omega|(simp<;>omega)|fail) only [go_sem,simprocAttr]
    refine wcall (c78 _ _ _) ?_
    cases h3 : within (b.sh[i]?.getD default) 0 20 with
    | false =>
     simp -failIfUnchanged (disch := first|omega|(simp<;>omega)|fail) only [go_sem,simprocAttr]
     rw [areB_false hlt h3]
     rfl
    | true =>
     simp -failIfUnchanged (disch := first|omega|(simp<;>omega)|fail) only [go_sem,simprocAttr]
     refine wcall (c78 _ _ _) ?_
     cases h4 : within (b.mo[i]?.getD default) 0 20 with
     | false =>
      simp -failIfUnchanged (disch := first|omega|(simp<;>omega)|fail) only [go_sem,simprocAttr]
      rw [areB_false hlt2 h4]
      simp
     | true =>
      simp -failIfUnchanged (disch := first|omega|(simp<;>omega)|fail) only [go_sem,simprocAttr]
      refine ⟨i + 1, ⟨by omega, ?_, ?_⟩, by dsimp only; omega, ?_⟩
      ·have := take_succ_all (p := fun x => !within x 0 20) hlt (fun x hx => by simp [g1 x hx]) (by simp only [h3]; rfl)
       intro x hx; simpa using this x hx
      ·have := take_succ_all (p := fun x => !within x 0 20) hlt2 (fun x hx => by simp [g2 x hx]) (by simp only [h4]; rfl)
       intro x hx; simpa using this x hx
      ·simp -failIfUnchanged (disch := first|omega|(simp<;>omega)|fail) only [go_sem,simprocAttr]
       try simp
   ·simp -failIfUnchanged (disch := first|omega|(simp<;>omega)|fail) only [go_sem,simprocAttr]
    have e : i = b.sh.length := by omega
    rw [e, List.take_length] at g1
    rw [show i = b.mo.length by omega, List.take_length] at g2
    have a1 : areB 20 b.sh = true := by
     simp only [areB, Bool.not_eq_true', List.any_eq_false]
     intro x hx; simp [g1 x hx]
    have a2 : areB 20 b.mo = true := by
     simp only [areB, Bool.not_eq_true', List.any_eq_false]
     intro x hx; simp [g2 x hx]
    rw [a1, a2]
    rfl
 ·have e1 : decide ((b.sh.length : Int) ≤ 5) = false := by simpa using h1
  simp -failIfUnchanged (disch := first|omega|(simp<;>omega)|fail) only [go_sem,simprocAttr, h1]
  simp [e1]
def askB (b : Bx) (is : Bool) : Int := if checkB b then if is then 0 else 1 else 70
theorem c79 (b : Bx) (is : Bool) : Ctr Tryz.prog 79 [MB b, .bool is] (.int (askB b is)) := by
 refine ctr_of_wp hmix Tryz.func79 m79 rfl ?_
 unfold v79 askB
 simp -failIfUnchanged (disch := first|omega|(simp<;>omega)|fail) only [go_sem,simprocAttr]
 refine wcall (c129 b) ?_
 unfold errM
 cases checkB b with
 | false => simp -failIfUnchanged (disch := first|omega|(simp<;>omega)|fail) only [go_sem,simprocAttr]; try simp
 | true =>
  cases is with
  | false => simp -failIfUnchanged (disch := first|omega|(simp<;>omega)|fail) only [go_sem,simprocAttr]; try simp
  | true => simp -failIfUnchanged (disch := first|omega|(simp<;>omega)|fail) only [go_sem,simprocAttr]; try simp
theorem c28 (b : Bx) : Ctr Tryz.prog 28 [MB b] (.bool (farB b)) := by
 refine ctr_of_wp hmix Tryz.func28 m28 rfl ?_
 unfold v28 farB
 simp -failIfUnchanged (disch := first|omega|(simp<;>omega)|fail) only [go_sem,simprocAttr]
 refine WGd_bool (fun h1 => ?_) (fun h1 => ?_)
 ·simp -failIfUnchanged (disch := first|omega|(simp<;>omega)|fail) only [go_sem,simprocAttr, h1]
 ·simp -failIfUnchanged (disch := first|omega|(simp<;>omega)|fail) only [go_sem,simprocAttr, h1]
theorem sum_take_bd {l : List Int} (hl : l.length ≤ 100) (hb : ∀ x ∈ l, -1000 ≤ x ∧ x ≤ 1000) : ∀ i, i ≤ l.length → -1000 * (i : Int) ≤ sumI (l.take i) ∧ sumI (l.take i) ≤ 1000 * i := by
 intro i hi
 induction i with
 | zero => simp [sumI_nil]
 | succ i ih =>
  rw [List.take_add_one, List.getElem?_eq_getElem (by omega), sumI_app]
  have := hb _ (List.getElem_mem (l := l) (n := i) (by omega))
  have := ih (by omega)
  simp only [Option.toList_some, sumI_cons, sumI_nil]
  omega
theorem sum_take_succ {l : List Int} {i : Nat} (hi : i < l.length) : sumI (l.take (i + 1)) = sumI (l.take i) + l[i]?.getD default := by
 rw [List.take_add_one, List.getElem?_eq_getElem hi, sumI_app]
 simp only [Option.toList_some, sumI_cons, sumI_nil, Option.getD_some]
 omega
theorem c82 (l : List Int) (hl : l.length ≤ 100) (hb : ∀ x ∈ l, -1000 ≤ x ∧ x ≤ 1000) : Ctr Tryz.prog 82 [IS l] (.int (sumI l)) := by
 refine ctr_of_wp hmix Tryz.func82 m82 rfl ?_
 unfold v82 IS
 simp -failIfUnchanged (disch := first|omega|(simp<;>omega)|fail) only [go_sem,simprocAttr]
 refine wp_loop' Nat (fun i => ⟨[(3, .int (sumI (l.take i))), (6, IS l), (7, .int l.length), (8, .int i)], [], [], none⟩) (fun i => i ≤ l.length) (fun i => l.length - i) 0 (by simp) (by unfold IS; simp -failIfUnchanged (disch := first|omega|(simp<;>omega)|fail) only [go_sem,simprocAttr]; try rfl) ?_
 intro i hi
 have hi : i ≤ l.length := hi
 unfold IS
 simp -failIfUnchanged (disch := first|omega|(simp<;>omega)|fail) only [go_sem,simprocAttr]
 refine wcond_dec (fun h => ?_) (fun h => ?_)
 ·have hlt : i < l.length := by omega
  have s1 := sum_take_bd hl hb i hi
  have s2 := hb _ (mem_getD hlt)
  simp -failIfUnchanged (disch := first|omega|(simp<;>omega)|fail) only [go_sem,simprocAttr]
  refine ⟨i + 1, by dsimp only; omega, by dsimp only; omega, ?_⟩
  dsimp only
  rw [sum_take_succ hlt]
  simp -failIfUnchanged (disch := first|omega|(simp<;>omega)|fail) only [go_sem,simprocAttr]
  try simp
 ·simp -failIfUnchanged (disch := first|omega|(simp<;>omega)|fail) only [go_sem,simprocAttr]
  have e : i = l.length := by omega
  rw [e, List.take_length]
theorem has_mem {b : Bx} (hv : BV b) (k : Nat) : (hasL b k).length ≤ 100 ∧ ∀ x ∈ hasL b k, -1000 ≤ x ∧ x ≤ 1000 := by
 have hl := hasL_len hv k
 have := hv.n5
 refine ⟨by omega, fun x hx => ?_⟩
 obtain ⟨i, hi, rfl⟩ := List.getElem_of_mem hx
 have := at0_has hv k i
 rw [at0_lt hi] at this
 omega
def gauR (b : Bx) (f : Int) : AV := let e := askB b (within f 0 40); .tup [IS (if e = 0 then hasL b f.toNat else []), .int e]
def ovrR (b : Bx) (f : Int) : AV := let e := askB b (within f 0 40); .tup [.int (if e = 0 then f - sumI (hasL b f.toNat) else 0), .int e]
theorem askB_0 {b : Bx} {is : Bool} : askB b is = 0 ↔ checkB b = true ∧ is = true := by
 unfold askB
 cases checkB b <;> cases is <;> simp
theorem c31 (b : Bx) (f : Int) : Ctr Tryz.prog 31 [MB b, .int f] (gauR b f) := by
 refine ctr_of_wp hmix Tryz.func31 m31 rfl ?_
 unfold v31 gauR
 simp -failIfUnchanged (disch := first|omega|(simp<;>omega)|fail) only [go_sem,simprocAttr]
 refine wcall (c80 f) ?_
 simp -failIfUnchanged (disch := first|omega|(simp<;>omega)|fail) only [go_sem,simprocAttr]
 refine wcall (c79 b _) ?_
 simp -failIfUnchanged (disch := first|omega|(simp<;>omega)|fail) only [go_sem,simprocAttr]
 refine wcond_dec (fun h => ?_) (fun h => ?_)
 ·simp -failIfUnchanged (disch := first|omega|(simp<;>omega)|fail) only [go_sem,simprocAttr]
  simp [h]
 ·have h' : askB b (within f 0 40) = 0 := by simpa using h
  obtain ⟨h1, h2⟩ := askB_0.1 h'
  rw [within_iff] at h2
  obtain ⟨n, rfl⟩ : ∃ n : Nat, f = n := ⟨f.toNat, by omega⟩
  simp -failIfUnchanged (disch := first|omega|(simp<;>omega)|fail) only [go_sem,simprocAttr]
  refine wcall (c81 b (val_of_check h1) n (by omega)) ?_
  simp -failIfUnchanged (disch := first|omega|(simp<;>omega)|fail) only [go_sem,simprocAttr]
  simp [h']
theorem c32 (b : Bx) (f : Int) : Ctr Tryz.prog 32 [MB b, .int f] (ovrR b f) := by
 refine ctr_of_wp hmix Tryz.func32 m32 rfl ?_
 unfold v32 ovrR
 simp -failIfUnchanged (disch := first|omega|(simp<;>omega)|fail) only [go_sem,simprocAttr]
 have c31' := c31 b f
 unfold gauR at c31'
 by_cases h : askB b (within f 0 40) = 0
 ·obtain ⟨h1, h2⟩ := askB_0.1 h
  rw [within_iff] at h2
  have hv := val_of_check h1
  obtain ⟨n, rfl⟩ : ∃ n : Nat, f = n := ⟨f.toNat, by omega⟩
  obtain ⟨k1, k2⟩ := has_mem hv n
  have hs := sum_has hv n
  simp only [h, if_true, Int.toNat_natCast] at c31' ⊢
  refine wcall c31' ?_
  simp -failIfUnchanged (disch := first|omega|(simp<;>omega)|fail) only [go_sem,simprocAttr]
  refine wcall (c82 _ k1 k2) ?_
  simp -failIfUnchanged (disch := first|omega|(simp<;>omega)|fail) only [go_sem,simprocAttr]
 ·have e : decide (askB b (within f 0 40) = 0) = false := by simpa using h
  simp only [h, if_false] at c31' ⊢
  refine wcall c31' ?_
  simp -failIfUnchanged (disch := first|omega|(simp<;>omega)|fail) only [go_sem,simprocAttr, e, h, not_false_eq_true]
end Go.Proofs.YtpangdaijhiohaaGreatDoor.Mo

set_option linter.unusedSimpArgs false
set_option linter.unusedVariables false
set_option linter.unnecessarySimpa false
namespace Go.Proofs.YtpangdaijhiohaaGreatDoor.Mo
open Go Go.V
theorem tidy_ints {xs : List Int} {hp : List (Nat × BX)} : (xs.map AV.int).map (tidy hp) = xs.map .int := by
 rw [List.map_map]
 rfl
attribute [go_sem] tidy_ints
end Go.Proofs.YtpangdaijhiohaaGreatDoor.Mo

set_option linter.unusedSimpArgs false
set_option linter.unusedVariables false
set_option linter.unnecessarySimpa false
namespace Go.Proofs.YtpangdaijhiohaaGreatDoor.Mo
open Go Go.V
def fst (p : Nat → Bool) (n : Nat) : Option Nat := (List.range n).find? p
structure Pr where
 a : Int
 b : Int
 deriving Inhabited, DecidableEq
def bxM : Bx := ⟨[5, 3, 1], [9, 9, 9]⟩
def bxN : Bx := ⟨[5, 3, 1], [2, 1, 0]⟩
theorem c70 : Ctr Tryz.prog 70 [] (.tup [MB bxM, MB bxN]) := by
 refine ctr_of_wp hmix Tryz.func70 m70 rfl ?_
 unfold v70
 simp -failIfUnchanged (disch := first|omega|(simp<;>omega)|fail) only [go_sem,simprocAttr]
 simp [bxM, bxN]
end Go.Proofs.YtpangdaijhiohaaGreatDoor.Mo

set_option linter.unusedSimpArgs false
set_option linter.unusedVariables false
set_option linter.unnecessarySimpa false
namespace Go.Proofs.YtpangdaijhiohaaGreatDoor.Mo
open Go Go.V
end Go.Proofs.YtpangdaijhiohaaGreatDoor.Mo

set_option linter.unusedSimpArgs false
set_option linter.unusedVariables false
set_option linter.unnecessarySimpa false
namespace Go.Proofs.YtpangdaijhiohaaGreatDoor.Mo
open Go Go.V
theorem map_choose {α β γ : Type} {F : α → γ} {G : β → γ} {Q : β → Prop} : ∀ (es : List α), (∀ x ∈ es, ∃ s, F x = G s ∧ Q s) → ∃ l : List β, es.map F = l.map G ∧ l.length = es.length ∧ ∀ s ∈ l, Q s
 | [], _ => ⟨[], rfl, rfl, by simp⟩
 | x :: r, h => by
  obtain ⟨s, h1, h2⟩ := h x (by simp)
  obtain ⟨l, h3, h4, h5⟩ := map_choose r fun y hy => h y (by simp [hy])
  refine ⟨s :: l, by simp [h1, h3], by simp [h4], ?_⟩
  intro t ht
  rcases List.mem_cons.1 ht with rfl | ht
  ·exact h2
  ·exact h5 t ht
theorem ty_is {cs : List AV} (h : Ty (.sl .int) cs) : ∃ l : List Int, cs = [IS l] ∧ l.length < 9223372036854775808 := by
 rw [Ty] at h
 obtain ⟨es, rfl, h1, h2⟩ := h
 obtain ⟨l, h3, h4, _⟩ := map_choose (F := fun x => if TC.isSt .int then AV.agg x else x[0]?.getD .und) (G := AV.int) (Q := fun _ => True) es (fun x hx => by
  have := h2 x hx
  rw [Ty] at this
  obtain ⟨n, _, rfl⟩ := this
  exact ⟨n, rfl, trivial⟩)
 refine ⟨l, ?_, by omega⟩
 rw [h3]
 rfl
theorem ty_box {av : AV} (h : TyV (.st [.sl .int, .sl .int]) av) : ∃ b : Bx, av = MB b := by
 obtain ⟨cs, rfl, h⟩ := h
 simp only [TyL] at h
 obtain ⟨a, x, rfl, ha, b, y, rfl, hb, rfl⟩ := h
 obtain ⟨l, rfl, _⟩ := ty_is ha
 obtain ⟨m, rfl, _⟩ := ty_is hb
 exact ⟨⟨l, m⟩, rfl⟩
theorem ty_int {av : AV} (h : TyV .int av) : ∃ n : Int, av = .int n ∧ -9223372036854775808 ≤ n ∧ n ≤ 9223372036854775807 := by
 have h' : Ty .int [av] := h
 rw [Ty] at h'
 obtain ⟨n, h1, h2⟩ := h'
 exact ⟨n, by simpa using h2, h1.1, h1.2⟩
theorem laidOutP : laidOutB Tryz.prog = true := by kernel_rfl
end Go.Proofs.YtpangdaijhiohaaGreatDoor.Mo

set_option linter.unusedSimpArgs false
set_option linter.unusedVariables false
set_option linter.unnecessarySimpa false
namespace Go.Proofs.YtpangdaijhiohaaGreatDoor.Mo
open Go Go.V
theorem flat_ints (xs : List Int) : flat (xs.map AV.int) = xs.map .int := by
 induction xs with
 | nil => rfl
 | cons x r ih => simp only [List.map_cons, flat, cells_int, ih]; rfl
attribute [go_sem] flat_ints
end Go.Proofs.YtpangdaijhiohaaGreatDoor.Mo

set_option linter.unusedSimpArgs false
set_option linter.unusedVariables false
set_option linter.unnecessarySimpa false
namespace Go.Proofs.YtpangdaijhiohaaGreatDoor.Mo
open Go Go.V
end Go.Proofs.YtpangdaijhiohaaGreatDoor.Mo

set_option linter.unusedSimpArgs false
set_option linter.unusedVariables false
set_option linter.unnecessarySimpa false
namespace Go.Proofs.YtpangdaijhiohaaGreatDoor.Mo
open Go Go.V
end Go.Proofs.YtpangdaijhiohaaGreatDoor.Mo

set_option linter.unusedSimpArgs false
set_option linter.unusedVariables false
set_option linter.unnecessarySimpa false
namespace Go.Proofs.YtpangdaijhiohaaGreatDoor.Mo
open Go Go.V
end Go.Proofs.YtpangdaijhiohaaGreatDoor.Mo

set_option linter.unusedSimpArgs false
set_option linter.unusedVariables false
set_option linter.unnecessarySimpa false
namespace Go.Proofs.YtpangdaijhiohaaGreatDoor.Mo
open Go Go.V
end Go.Proofs.YtpangdaijhiohaaGreatDoor.Mo

set_option linter.unusedSimpArgs false
set_option linter.unusedVariables false
set_option linter.unnecessarySimpa false
namespace Go.Proofs.YtpangdaijhiohaaGreatDoor.Mo
open Go Go.V
end Go.Proofs.YtpangdaijhiohaaGreatDoor.Mo

set_option linter.unusedSimpArgs false
set_option linter.unusedVariables false
set_option linter.unnecessarySimpa false
namespace Go.Proofs.YtpangdaijhiohaaGreatDoor.Mo
open Go Go.V
end Go.Proofs.YtpangdaijhiohaaGreatDoor.Mo

set_option linter.unusedSimpArgs false
set_option linter.unusedVariables false
set_option linter.unnecessarySimpa false
namespace Go.Proofs.YtpangdaijhiohaaGreatDoor.Mo
open Go Go.V
end Go.Proofs.YtpangdaijhiohaaGreatDoor.Mo

set_option linter.unusedSimpArgs false
set_option linter.unusedVariables false
set_option linter.unnecessarySimpa false
namespace Go.Proofs.YtpangdaijhiohaaGreatDoor.Mo
open Go Go.V
end Go.Proofs.YtpangdaijhiohaaGreatDoor.Mo

set_option linter.unusedSimpArgs false
set_option linter.unusedVariables false
set_option linter.unnecessarySimpa false
namespace Go.Proofs.YtpangdaijhiohaaGreatDoor.Mo
open Go Go.V
end Go.Proofs.YtpangdaijhiohaaGreatDoor.Mo

set_option linter.unusedSimpArgs false
set_option linter.unusedVariables false
set_option linter.unnecessarySimpa false
namespace Go.Proofs.YtpangdaijhiohaaGreatDoor.Mo
open Go Go.V
end Go.Proofs.YtpangdaijhiohaaGreatDoor.Mo

set_option linter.unusedSimpArgs false
set_option linter.unusedVariables false
set_option linter.unnecessarySimpa false
namespace Go.Proofs.YtpangdaijhiohaaGreatDoor.Mo
open Go Go.V
structure Later (T : Prop) : Prop where
 out : T
end Go.Proofs.YtpangdaijhiohaaGreatDoor.Mo

set_option linter.unusedSimpArgs false
set_option linter.unusedVariables false
set_option linter.unnecessarySimpa false
namespace Go.Proofs.YtpangdaijhiohaaGreatDoor.Bd
open Go Go.V Mo
def cmpI (a b : Int) : Int := if a < b then -1 else if b < a then 1 else 0
theorem c162 (n : Int) : Ctr Tryz.prog 162 [.int n] (.bool false) := by
 refine ctr_of_wp hmix Tryz.func162 m162 rfl ?_
 unfold v162
 simp -failIfUnchanged (disch := first|omega|(simp<;>omega)|fail) only [go_sem,simprocAttr]
 try simp
theorem c148 (a b : Int) : Ctr Tryz.prog 148 [.int a, .int b] (.int (cmpI a b)) := by
 refine ctr_of_wp hmix Tryz.func148 m148 rfl ?_
 unfold v148 cmpI
 simp -failIfUnchanged (disch := first|omega|(simp<;>omega)|fail) only [go_sem,simprocAttr]
 refine wcall (c162 a) ?_
 simp -failIfUnchanged (disch := first|omega|(simp<;>omega)|fail) only [go_sem,simprocAttr]
 refine wcall (c162 b) ?_
 simp -failIfUnchanged (disch := first|omega|(simp<;>omega)|fail) only [go_sem,simprocAttr]
 refine wcond_dec (fun h => ?_) (fun h => ?_)
 ·simp -failIfUnchanged (disch := first|omega|(simp<;>omega)|fail) only [go_sem,simprocAttr, h]
 ·simp -failIfUnchanged (disch := first|omega|(simp<;>omega)|fail) only [go_sem,simprocAttr, h]
  refine wcond_dec (fun h2 => ?_) (fun h2 => ?_)
  ·simp -failIfUnchanged (disch := first|omega|(simp<;>omega)|fail) only [go_sem,simprocAttr, h, h2]
  ·simp -failIfUnchanged (disch := first|omega|(simp<;>omega)|fail) only [go_sem,simprocAttr, h, h2]
def orF (l : List Int) : Int := (l.find? fun x => x != 0).getD 0
theorem orF_hit {l : List Int} {i : Nat} (hi : i < l.length) (h : ∀ j, j < i → l[j]?.getD default = 0) (hx : l[i]?.getD default ≠ 0) : orF l = l[i]?.getD default := by
 have e : l[i]?.getD default = l[i] := by simp [hi]
 rw [e] at hx ⊢
 have : l.find? (fun x => x != 0) = some l[i] := by
  rw [List.find?_eq_some_iff_getElem]
  refine ⟨by simpa using hx, i, hi, rfl, fun j hj => ?_⟩
  have := h j hj
  simpa [Nat.lt_trans hj hi] using this
 unfold orF
 rw [this]
 rfl
theorem orF_none {l : List Int} (h : ∀ j, j < l.length → l[j]?.getD default = 0) : orF l = 0 := by
 have : l.find? (fun x => x != 0) = none := by
  rw [List.find?_eq_none]
  intro x hx
  obtain ⟨j, hj, rfl⟩ := List.getElem_of_mem hx
  have := h j hj
  simpa [hj] using this
 unfold orF
 rw [this]
 rfl
theorem c147 (l : List Int) (hl : l.length < 1000000) : Ctr Tryz.prog 147 [IS l] (.int (orF l)) := by
 refine ctr_of_wp hmix Tryz.func147 m147 rfl ?_
 unfold v147
 simp -failIfUnchanged (disch := first|omega|(simp<;>omega)|fail) only [go_sem,simprocAttr]
 refine wp_loop' Nat (fun i => ⟨[(3, .int 0), (6, IS l), (7, .int l.length), (8, .int i)], [], [], none⟩) (fun i => i ≤ l.length ∧ ∀ j, j < i → l[j]?.getD default = 0) (fun i => l.length - i) 0 (by simp) (by simp -failIfUnchanged (disch := first|omega|(simp<;>omega)|fail) only [go_sem,simprocAttr]; try simp) ?_
 rintro i ⟨h1, h2⟩
 simp -failIfUnchanged (disch := first|omega|(simp<;>omega)|fail) only [go_sem,simprocAttr]
 refine wcond_dec (fun h => ?_) (fun h => ?_)
 ·have hlt : i < l.length := by omega
  simp -failIfUnchanged (disch := first|omega|(simp<;>omega)|fail) only [go_sem,simprocAttr]
  refine wcond_dec (fun hx => ?_) (fun hx => ?_)
  ·rw [orF_hit hlt h2 hx]
   simp -failIfUnchanged (disch := first|omega|(simp<;>omega)|fail) only [go_sem,simprocAttr]
  ·have hx' : l[i]?.getD default = 0 := by simpa using hx
   simp -failIfUnchanged (disch := first|omega|(simp<;>omega)|fail) only [go_sem,simprocAttr]
   refine ⟨i + 1, ⟨by omega, fun j hj => ?_⟩, by dsimp only; omega, ?_⟩
   ·rcases Nat.lt_or_ge j i with h3 | h3
    ·exact h2 j h3
    ·obtain rfl : j = i := by omega
     exact hx'
   ·simp -failIfUnchanged (disch := first|omega|(simp<;>omega)|fail) only [go_sem,simprocAttr]
    try simp
 ·have e : i = l.length := by omega
  subst e
  rw [orF_none h2]
  simp -failIfUnchanged (disch := first|omega|(simp<;>omega)|fail) only [go_sem,simprocAttr]
abbrev WY (h w : Int) : AV := .agg [.int h, .int w]
theorem c125 (a b c d : Int) : Ctr Tryz.prog 125 [WY a b, WY c d] (.int (orF [cmpI a c, cmpI b d])) := by
 refine ctr_of_wp hmix Tryz.func125 m125 rfl ?_
 unfold v125
 simp -failIfUnchanged (disch := first|omega|(simp<;>omega)|fail) only [go_sem,simprocAttr]
 refine wcall (c148 _ _) ?_
 simp -failIfUnchanged (disch := first|omega|(simp<;>omega)|fail) only [go_sem,simprocAttr]
 refine wcall (c148 _ _) ?_
 simp -failIfUnchanged (disch := first|omega|(simp<;>omega)|fail) only [go_sem,simprocAttr]
 refine wcall (c147 [cmpI a c, cmpI b d] (by simp)) ?_
 simp -failIfUnchanged (disch := first|omega|(simp<;>omega)|fail) only [go_sem,simprocAttr]
def befW (a b c d : Int) : Bool := decide (a < c) || (decide (a = c) && decide (b < d))
theorem cmp_bef (a b c d : Int) : decide (0 ≤ orF [cmpI a c, cmpI b d]) = !befW a b c d := by
 have e : orF [cmpI a c, cmpI b d] = if cmpI a c = 0 then cmpI b d else cmpI a c := by
  unfold orF
  by_cases h1 : cmpI a c = 0
  ·by_cases h2 : cmpI b d = 0
   ·simp [h1, h2]
   ·simp [h1, h2]
  ·simp [h1]
 rw [e]
 unfold cmpI befW
 by_cases h1 : a < c
 ·simp [h1]
 ·by_cases h2 : a = c
  ·subst h2
   by_cases h3 : b < d
   ·simp [h3]
   ·simp [h3]
    split <;> omega
  ·have : c < a := by omega
   simp [h1, h2, this]
theorem c113 (a b c d : Int) : Ctr Tryz.prog 113 [WY a b, WY c d] (.bool (befW a b c d)) := by
 refine ctr_of_wp hmix Tryz.func113 m113 rfl ?_
 unfold v113 befW
 simp -failIfUnchanged (disch := first|omega|(simp<;>omega)|fail) only [go_sem,simprocAttr]
 refine WGd_bool (fun h => ?_) (fun h => ?_)
 ·simp -failIfUnchanged (disch := first|omega|(simp<;>omega)|fail) only [go_sem,simprocAttr, h]
  refine WGd_bool (fun h2 => ?_) (fun h2 => ?_)
  ·simp -failIfUnchanged (disch := first|omega|(simp<;>omega)|fail) only [go_sem,simprocAttr, h, h2]
   try simp
  ·simp -failIfUnchanged (disch := first|omega|(simp<;>omega)|fail) only [go_sem,simprocAttr, h, h2]
   try simp
 ·simp -failIfUnchanged (disch := first|omega|(simp<;>omega)|fail) only [go_sem,simprocAttr, h]
  try simp
theorem c121 (n lo hi : Int) : Ctr Tryz.prog 121 [.int n, .int lo, .int hi] (.bool (within n lo hi)) := by
 refine ctr_of_wp hmix Tryz.func121 m121 rfl ?_
 unfold v121
 simp -failIfUnchanged (disch := first|omega|(simp<;>omega)|fail) only [go_sem,simprocAttr]
 refine WGd_bool (fun h => ?_) (fun h => ?_)
 ·simp -failIfUnchanged (disch := first|omega|(simp<;>omega)|fail) only [go_sem,simprocAttr, h]
  simp only [decide_eq_true_eq] at h
  simp [within, h]
 ·simp -failIfUnchanged (disch := first|omega|(simp<;>omega)|fail) only [go_sem,simprocAttr, h]
  simp only [Bool.not_true, decide_eq_false_iff_not] at h
  simp [within, h]
theorem c110 (n lo hi : Int) : Ctr Tryz.prog 110 [.int n, .int lo, .int hi] (.bool (within n lo hi)) := by
 refine ctr_of_wp hmix Tryz.func110 m110 rfl ?_
 unfold v110
 simp -failIfUnchanged (disch := first|omega|(simp<;>omega)|fail) only [go_sem,simprocAttr]
 refine wcall (c8 _ _ _) ?_
 simp -failIfUnchanged (disch := first|omega|(simp<;>omega)|fail) only [go_sem,simprocAttr]
end Go.Proofs.YtpangdaijhiohaaGreatDoor.Bd

set_option linter.unusedSimpArgs false
set_option linter.unusedVariables false
set_option linter.unnecessarySimpa false
namespace Go.Proofs.YtpangdaijhiohaaGreatDoor.Bd
open Go Go.V Mo Go.RowKit
theorem ctrS_empty {P : Program} {f : FuncId} {args : List AV} {fm sz : Nat} {ag : Bool} (hc : callable P f = true)
  (h : ∀ (C : Nat → Nat → Prop) (w : World) (vs : Array Value), CVg C w → Reps0 C w vs args → Calls P f vs w fun e w' => ∃ a, e = .returned (.slice a 0 0) ∧ Below w.heap.size w w') :
  CtrS P f args (.gsl fm 0 0 sz 0 ag) (gsB fm [(0, 0, ⟨[], false⟩)]) := by
 refine ⟨hc, fun C w vs hC hr => (h C w vs hC hr).mono fun e w' he => ?_⟩
 obtain ⟨a, rfl, hb⟩ := he
 refine ⟨_, C, fun b => if b = K fm 0 0 then some 0 else none, fun _ => none, rfl, hb, fun b o hbo => ?_, fun _ _ x => x, fun _ _ x => .inl x, ?_, fun b bx hg => ?_, fun b blk hm => ?_, fun _ _ x => by cases x⟩
 ·have := hC.1 b o hbo
  have := hb.size
  omega
 ·refine ⟨0, by simp, .inl ⟨rfl, a, rfl⟩⟩
 ·by_cases e : b = K fm 0 0
  ·subst e
   have : bx = ⟨[], false⟩ := by simpa [gsB, getB] using hg.symm
   subst this
   refine ⟨0, by simp, ?_⟩
   unfold BoxOK
   exact .inl ⟨rfl, by unfold K; omega⟩
  ·exfalso
   have : K fm 0 0 ≠ b := fun x => e x.symm
   simp [gsB, getB, this] at hg
 ·by_cases e : b = K fm 0 0
  ·subst e; simp [gsB, getB]
  ·simp [e] at hm
theorem u22 : Tryz.prog.underlying 51 = some (.slice 3) := by kernel_rfl
theorem run_eqn (w : World) (a : Addr) (l c : Nat) : (binOp .eql 51 (.slice (some a) l c) (.slice none 0 0)).run Tryz.prog w = .ok (.bool false) w := V.run_eql_nils u22 a l c w
theorem run_equalIn_nil0 {P : Program} {d : Nat} {t et : TypeId} (h : P.underlying t = some (.slice et)) (n c : Nat) (w : World) : (Op.equalIn (d + 1) t (.slice none n c) (.slice none 0 0)).run P w = .ok true w := by
 simp [Op.equalIn, run_underlying h]
theorem run_equal_nil0 {P : Program} {t et : TypeId} (h : P.underlying t = some (.slice et)) (n c : Nat) (w : World) : (Op.equal t (.slice none n c) (.slice none 0 0)).run P w = .ok true w := run_equalIn_nil0 (d := 9999) h n c w
attribute [go_sem] run_eqn
theorem run_eqn0 (w : World) (l c : Nat) : (binOp .eql 51 (.slice none l c) (.slice none 0 0)).run Tryz.prog w = .ok (.bool true) w := by
 simp only [binOp, Sem.run_bind, run_equal_nil0 u22, Result.andThen_ok, Sem.run_pure]
attribute [go_sem] run_eqn0
set_option maxRecDepth 100000 in
theorem c149e (fm : Nat) : CtrS Tryz.prog 149 [IS []] (.gsl fm 0 0 1 0 false) (gsB fm [(0, 0, ⟨[], false⟩)]) := by
 refine ctrS_empty (by kernel_rfl) fun C w vs hC hr => ?_
 obtain ⟨h1, h2⟩ := hr
 have h3 := h2 0 _ rfl
 obtain ⟨v, rfl⟩ : ∃ v, vs = #[v] := by
  obtain ⟨l⟩ := vs
  match l, h1 with
  | [v], _ => exact ⟨v, rfl⟩
 have h4 : ∃ a cap, v = .slice a 0 cap := by
  have h5 : Rep0 C w v (.sl 1 [] .sh) := h3
  cases h5 with
  | sl0 a cap sz => exact ⟨a, cap, rfl⟩
  | sl blk o n cap sz es f hn => exact ⟨some ⟨blk, o, none⟩, cap, by rw [hn]; rfl⟩
 obtain ⟨a, cap, rfl⟩ := h4
 cases a with
 | none =>
  go_enter Tryz.func149, Tryz.ntmps149
  go_wp2
  go_ret
  exact ⟨_, rfl, .refl _ _⟩
 | some a =>
  go_enter Tryz.func149, Tryz.ntmps149
  go_wp2
  go_ret
  exact ⟨_, rfl, Below.alloc (Below.refl _ _) (Nat.le_refl _) _⟩
theorem ctrS_of_csem_le {P : Program} {rd : Bool} {f : FuncId} {args : List AV} {r : AV} {bs : HpL} (h : CSem ⟨P, [], none, rd⟩ f args [] [] none (fun r' hp' tk' pd' => r' = r ∧ leS ⟨[], hp', tk', pd'⟩ ⟨[], bs, [], pd'⟩ ∧ inScope ⟨[], bs, [], pd'⟩ r)) : CtrS P f args r bs := by
 refine ctrS_of_csem (rd := rd) ?_
 obtain ⟨h1, h2⟩ := h
 refine ⟨h1, ?_⟩
 intro C0 w0 X K L w vs e1 e2 e3 hR
 refine (h2 C0 w0 X K L w vs e1 e2 e3 hR).mono fun e w' he => ?_
 obtain ⟨v, r', hp', tk', pd', rfl, ⟨rfl, hl, hs⟩, hr⟩ := he
 refine ⟨v, r', bs, [], pd', rfl, ⟨rfl, rfl, rfl⟩, le_rel hr hl ?_⟩
 simp only [List.map_cons, e1]
 exact ⟨⟨hs, trivial⟩, trivial⟩
theorem c149 (fm : Nat) (l : List Int) (hl : l.length < 1000) : CtrS Tryz.prog 149 [IS l] (.gsl fm 0 0 1 l.length false) (gsB fm [(0, 0, ⟨l.map .int, false⟩)]) := by
 rcases Nat.eq_zero_or_pos l.length with h0 | h0
 ·obtain rfl : l = [] := List.length_eq_zero_iff.1 h0
  exact c149e fm
 ·refine ctrS_of_csem_le (rd := false) ?_
  refine csem_of_wp hmix Tryz.func149 (m149g fm) rfl rfl ?_
  unfold v149g
  simp -failIfUnchanged (disch := first|omega|(simp<;>omega)|fail) only [go_sem,simprocAttr]
  simp [leS, leFr, leTk, gsB, leHp, getB, flat_ints, scopes_ints, inScope]
end Go.Proofs.YtpangdaijhiohaaGreatDoor.Bd
