/- The code of the functions that a statement reaches, as V-code, checked against the program. Printed by a program. -/
import Derived.Test.YtomchclmnmhjaaaV3
import Derived.Test.YtomchclmnmhjaaaChecked
import Derived.KernelRfl
set_option maxRecDepth 100000
namespace Go.Proofs.Ytomchclmnmhjaaa
open Go GoV

/- scholia/scholialaw13.PastKept -/
def l11_0 : VCode := .seq (.region false [⟨some 28, .bin .lss (.t 27) (.t 26), [], none⟩])
  (.seq (.cond (.t 28) (.skip) (.exit 0))
  (.seq (.block 1 (.seq (.region false [⟨some 29, .ixS 8 (.t 25) (.t 27), [], none⟩,
    ⟨some 30, .load true 8 (.t 29), [], none⟩,
    ⟨some 11, .new [.iv (.int .i64 0), .iv (.int .i64 0), .iv (.int .i64 0), .iv (.int .i64 0), .iv (.str ⟨#[]⟩), .iv (.int .i64 0), .iv (.str ⟨#[]⟩), .iv (.sl true 0 [])], [], none⟩,
    ⟨none, .store 8 (.t 11) (.t 30), [], none⟩])
  (.seq (.region false [⟨some 31, .fad 3 (.t 11), [], none⟩,
    ⟨some 32, .load false 1 (.t 31), [], none⟩,
    ⟨some 33, .bin .eql (.t 32) (.k (.one (.iv (.int .i64 2)))), [], none⟩,
    ⟨some 34, .mov none (.t 33), [], none⟩,
    ⟨some 35, .load true 64 (.t 5), [], some (34, true)⟩,
    ⟨some 36, .fad 0 (.t 11), [], some (34, true)⟩,
    ⟨some 37, .load true 2 (.t 36), [], some (34, true)⟩,
    ⟨some 38, .call 22 [(false, .t 35), (false, .t 37)], [], some (34, true)⟩,
    ⟨some 39, .un .not (.t 38), [], some (34, true)⟩,
    ⟨some 40, .pick (.t 34) (.t 39) (.k (.one (.iv (.bool false)))), [], none⟩])
  (.cond (.t 40) (.region false [⟨some 41, .mov none (.t 9), [], none⟩,
    ⟨some 42, .bin .add (.t 41) (.k (.one (.iv (.int .i64 1)))), [], none⟩,
    ⟨some 9, .mov none (.t 42), [], none⟩]) (.skip)))))
  (.region false [⟨some 43, .bin .add (.t 27) (.k (.one (.iv (.int .i64 1)))), [], none⟩,
    ⟨some 27, .mov none (.t 43), [], none⟩])))
def b11 : VCode := .seq (.region false [⟨some 3, .box (.t 0), [], none⟩,
    ⟨some 5, .box (.t 2), [], none⟩,
    ⟨some 6, .mov none (.k (.one (.iv (.bool false)))), [], none⟩])
  (.seq (.seq (.region false [⟨some 12, .fad 0 (.t 3), [], none⟩,
    ⟨some 13, .load false 1 (.t 12), [], none⟩,
    ⟨some 14, .mks false 1 [.t 13], [], none⟩,
    ⟨some 15, .call 53 [(false, .t 14)], [], none⟩,
    ⟨some 16, .un .not (.t 15), [], none⟩])
  (.cond (.t 16) (.seq (.region false [⟨some 17, .call 54 [], [], none⟩,
    ⟨some 6, .mov none (.t 17), [], none⟩])
  (.ret)) (.skip)))
  (.seq (.region true [⟨some 18, .load true 65 (.t 3), [], none⟩,
    ⟨some 19, .mov none (.t 1), [], none⟩,
    ⟨some 20, .call 55 [(false, .t 18), (false, .t 19)], [1, 0], none⟩,
    ⟨some 21, .load true 65 (.t 3), [], none⟩,
    ⟨some 22, .load true 64 (.t 5), [], none⟩,
    ⟨some 23, .call 56 [(false, .t 21), (false, .t 22)], [4, 3, 2], none⟩,
    ⟨some 7, .new [.iv (.sl true 0 []), .iv (.arr 64 (List.replicate 64 (.int .i64 0)))], [], none⟩,
    ⟨some 8, .new [.iv (.sl true 0 []), .iv (.arr 64 (List.replicate 64 (.int .i64 0)))], [], none⟩,
    ⟨none, .store 65 (.t 7) (.t 20), [7, 6, 5], none⟩,
    ⟨none, .store 65 (.t 8) (.t 23), [8], none⟩])
  (.seq (.region false [⟨some 9, .mov none (.k (.one (.iv (.int .i64 0)))), [], none⟩])
  (.seq (.seq (.region false [⟨some 24, .fad 0 (.t 3), [], none⟩,
    ⟨some 25, .load false 1 (.t 24), [], none⟩,
    ⟨some 26, .blt .len [.t 25], [], none⟩,
    ⟨some 27, .mov none (.k (.one (.iv (.int .i64 0)))), [], none⟩])
  (.block 0 (.loop false [1, 3, 5, 7, 8, 9, 25, 26, 27] l11_0)))
  (.seq (.region true [⟨some 44, .load true 65 (.t 7), [], none⟩,
    ⟨some 45, .call 57 [(false, .t 44)], [0], none⟩,
    ⟨some 46, .load true 65 (.t 3), [], none⟩,
    ⟨some 47, .call 57 [(false, .t 46)], [2, 1], none⟩,
    ⟨some 48, .bin .eql (.t 45) (.t 47), [3], none⟩,
    ⟨some 49, .mov none (.t 48), [4], none⟩,
    ⟨some 50, .load true 65 (.t 8), [5], some (49, true)⟩,
    ⟨some 51, .call 57 [(false, .t 50)], [6], some (49, true)⟩,
    ⟨some 52, .mov none (.t 9), [5], some (49, true)⟩,
    ⟨some 53, .bin .eql (.t 51) (.t 52), [8, 7], some (49, true)⟩,
    ⟨some 54, .pick (.t 49) (.t 53) (.k (.one (.iv (.bool false)))), [9], none⟩,
    ⟨some 55, .mov none (.t 54), [10], none⟩,
    ⟨some 56, .fad 0 (.t 7), [11], some (55, true)⟩,
    ⟨some 57, .load false 1 (.t 56), [12], some (55, true)⟩,
    ⟨some 58, .blt .len [.t 57], [13], some (55, true)⟩,
    ⟨some 59, .load true 65 (.t 7), [11], some (55, true)⟩,
    ⟨some 60, .call 57 [(false, .t 59)], [15], some (55, true)⟩,
    ⟨some 61, .bin .sub (.t 58) (.t 60), [16, 14], some (55, true)⟩,
    ⟨some 62, .mov none (.t 1), [11], some (55, true)⟩,
    ⟨some 63, .blt .max [.t 62, .k (.one (.iv (.int .i64 0)))], [18], some (55, true)⟩,
    ⟨some 64, .bin .leq (.t 61) (.t 63), [19, 17], some (55, true)⟩,
    ⟨some 65, .pick (.t 55) (.t 64) (.k (.one (.iv (.bool false)))), [20], none⟩,
    ⟨some 66, .mov none (.t 65), [21], none⟩,
    ⟨some 67, .fad 1 (.t 3), [22], some (66, true)⟩,
    ⟨some 68, .load true 64 (.t 67), [23], some (66, true)⟩,
    ⟨some 69, .fad 1 (.t 7), [22], some (66, true)⟩,
    ⟨some 70, .load true 64 (.t 69), [25], some (66, true)⟩,
    ⟨some 71, .call 31 [(false, .t 68), (false, .t 70)], [26, 24], some (66, true)⟩,
    ⟨some 72, .pick (.t 66) (.t 71) (.k (.one (.iv (.bool false)))), [27], none⟩,
    ⟨some 73, .mov none (.t 72), [28], none⟩,
    ⟨some 74, .fad 1 (.t 3), [29], some (73, true)⟩,
    ⟨some 75, .load true 64 (.t 74), [30], some (73, true)⟩,
    ⟨some 76, .fad 1 (.t 8), [29], some (73, true)⟩,
    ⟨some 77, .load true 64 (.t 76), [32], some (73, true)⟩,
    ⟨some 78, .call 31 [(false, .t 75), (false, .t 77)], [33, 31], some (73, true)⟩,
    ⟨some 79, .pick (.t 73) (.t 78) (.k (.one (.iv (.bool false)))), [34], none⟩,
    ⟨some 80, .mov none (.t 79), [35], none⟩,
    ⟨some 81, .call 54 [], [36], some (80, true)⟩,
    ⟨some 82, .pick (.t 80) (.t 81) (.k (.one (.iv (.bool false)))), [37], none⟩,
    ⟨some 6, .mov none (.t 82), [38], none⟩])
  (.ret))))))
def v11 : VFn := ⟨3, 83, [.t 6], b11⟩

theorem c11 : chkFn Try.prog 11 v11 = true := by kernel_rfl

/- scholia/scholiaplain.Few -/
def l53_1 : VCode := .seq (.region false [⟨some 25, .bin .lss (.t 24) (.t 23), [], none⟩])
  (.seq (.cond (.t 25) (.skip) (.exit 2))
  (.seq (.block 3 (.seq (.region false [⟨some 26, .ixS 8 (.t 22) (.t 24), [], none⟩,
    ⟨some 27, .load true 8 (.t 26), [], none⟩,
    ⟨some 8, .new [.iv (.int .i64 0), .iv (.int .i64 0), .iv (.int .i64 0), .iv (.int .i64 0), .iv (.str ⟨#[]⟩), .iv (.int .i64 0), .iv (.str ⟨#[]⟩), .iv (.sl true 0 [])], [], none⟩,
    ⟨none, .store 8 (.t 8) (.t 27), [], none⟩])
  (.seq (.seq (.region false [⟨some 28, .fad 7 (.t 8), [], none⟩,
    ⟨some 29, .load false 1 (.t 28), [], none⟩,
    ⟨some 30, .blt .len [.t 29], [], none⟩,
    ⟨some 31, .bin .gtr (.t 30) (.k (.one (.iv (.int .i64 130)))), [], none⟩])
  (.cond (.t 31) (.seq (.region false [⟨some 2, .mov none (.k (.one (.iv (.bool false)))), [], none⟩])
  (.ret)) (.skip)))
  (.seq (.region false [⟨some 32, .mov none (.t 4), [], none⟩,
    ⟨some 33, .fad 4 (.t 8), [], none⟩,
    ⟨some 34, .load false 1 (.t 33), [], none⟩,
    ⟨some 35, .blt .lenS [.t 34], [], none⟩,
    ⟨some 36, .blt .min [.t 35, .k (.one (.iv (.int .i64 8192)))], [], none⟩,
    ⟨some 37, .fad 6 (.t 8), [], none⟩,
    ⟨some 38, .load false 1 (.t 37), [], none⟩,
    ⟨some 39, .blt .lenS [.t 38], [], none⟩,
    ⟨some 40, .blt .min [.t 39, .k (.one (.iv (.int .i64 8192)))], [], none⟩,
    ⟨some 41, .bin .add (.t 36) (.t 40), [], none⟩,
    ⟨some 42, .bin .add (.t 32) (.t 41), [], none⟩,
    ⟨some 4, .mov none (.t 42), [], none⟩])
  (.seq (.region false [⟨some 43, .mov none (.t 4), [], none⟩,
    ⟨some 44, .bin .gtr (.t 43) (.k (.one (.iv (.int .i64 8192)))), [], none⟩])
  (.cond (.t 44) (.seq (.region false [⟨some 2, .mov none (.k (.one (.iv (.bool false)))), [], none⟩])
  (.ret)) (.skip)))))))
  (.region false [⟨some 45, .bin .add (.t 24) (.k (.one (.iv (.int .i64 1)))), [], none⟩,
    ⟨some 24, .mov none (.t 45), [], none⟩])))
def l53_0 : VCode := .seq (.region false [⟨some 12, .bin .lss (.t 11) (.t 10), [], none⟩])
  (.seq (.cond (.t 12) (.skip) (.exit 0))
  (.seq (.block 1 (.seq (.region false [⟨some 13, .ixS 1 (.t 9) (.t 11), [], none⟩,
    ⟨some 14, .load false 1 (.t 13), [], none⟩,
    ⟨some 6, .mov none (.t 14), [], none⟩])
  (.seq (.seq (.region false [⟨some 15, .mov none (.t 3), [], none⟩,
    ⟨some 16, .mov none (.t 6), [], none⟩,
    ⟨some 17, .blt .len [.t 16], [], none⟩,
    ⟨some 18, .blt .min [.t 17, .k (.one (.iv (.int .i64 100)))], [], none⟩,
    ⟨some 19, .bin .add (.t 15) (.t 18), [], none⟩,
    ⟨some 3, .mov none (.t 19), [], none⟩])
  (.seq (.region false [⟨some 20, .mov none (.t 3), [], none⟩,
    ⟨some 21, .bin .gtr (.t 20) (.k (.one (.iv (.int .i64 80)))), [], none⟩])
  (.cond (.t 21) (.seq (.region false [⟨some 2, .mov none (.k (.one (.iv (.bool false)))), [], none⟩])
  (.ret)) (.skip))))
  (.seq (.region false [⟨some 22, .mov none (.t 6), [], none⟩,
    ⟨some 23, .blt .len [.t 22], [], none⟩,
    ⟨some 24, .mov none (.k (.one (.iv (.int .i64 0)))), [], none⟩])
  (.block 2 (.loop false [3, 4, 9, 10, 11, 22, 23, 24] l53_1))))))
  (.region false [⟨some 46, .bin .add (.t 11) (.k (.one (.iv (.int .i64 1)))), [], none⟩,
    ⟨some 11, .mov none (.t 46), [], none⟩])))
def b53 : VCode := .seq (.region false [⟨some 2, .mov none (.k (.one (.iv (.bool false)))), [], none⟩])
  (.seq (.region false [⟨some 3, .mov none (.k (.one (.iv (.int .i64 0)))), [], none⟩,
    ⟨some 4, .mov none (.k (.one (.iv (.int .i64 0)))), [], none⟩])
  (.seq (.seq (.region false [⟨some 9, .mov none (.t 0), [], none⟩,
    ⟨some 10, .blt .len [.t 9], [], none⟩,
    ⟨some 11, .mov none (.k (.one (.iv (.int .i64 0)))), [], none⟩])
  (.block 0 (.loop false [3, 4, 9, 10, 11] l53_0)))
  (.seq (.region false [⟨some 2, .mov none (.k (.one (.iv (.bool true)))), [], none⟩])
  (.ret))))
def v53 : VFn := ⟨1, 47, [.t 2], b53⟩

theorem c53 : chkFn Try.prog 53 v53 = true := by kernel_rfl

/- scholia/past.Trim -/
def l55_0 : VCode := .seq (.region false [⟨some 15, .bin .lss (.t 14) (.t 13), [], none⟩])
  (.seq (.cond (.t 15) (.skip) (.exit 0))
  (.seq (.block 1 (.seq (.region false [⟨some 16, .ixS 8 (.t 12) (.t 14), [], none⟩,
    ⟨some 17, .load true 8 (.t 16), [], none⟩,
    ⟨some 7, .new [.iv (.int .i64 0), .iv (.int .i64 0), .iv (.int .i64 0), .iv (.int .i64 0), .iv (.str ⟨#[]⟩), .iv (.int .i64 0), .iv (.str ⟨#[]⟩), .iv (.sl true 0 [])], [], none⟩,
    ⟨none, .store 8 (.t 7) (.t 17), [], none⟩])
  (.seq (.region false [⟨some 18, .fad 3 (.t 7), [], none⟩,
    ⟨some 19, .load false 1 (.t 18), [], none⟩,
    ⟨some 20, .bin .neq (.t 19) (.k (.one (.iv (.int .i64 2)))), [], none⟩])
  (.cond (.t 20) (.region false [⟨some 21, .mov none (.t 5), [], none⟩,
    ⟨some 22, .bin .add (.t 21) (.k (.one (.iv (.int .i64 1)))), [], none⟩,
    ⟨some 5, .mov none (.t 22), [], none⟩]) (.skip)))))
  (.region false [⟨some 23, .bin .add (.t 14) (.k (.one (.iv (.int .i64 1)))), [], none⟩,
    ⟨some 14, .mov none (.t 23), [], none⟩])))
def l55_1 : VCode := .seq (.region false [⟨some 31, .bin .lss (.t 30) (.t 29), [], none⟩])
  (.seq (.cond (.t 31) (.skip) (.exit 2))
  (.seq (.block 3 (.seq (.region false [⟨some 32, .ixS 8 (.t 28) (.t 30), [], none⟩,
    ⟨some 33, .load true 8 (.t 32), [], none⟩,
    ⟨some 10, .new [.iv (.int .i64 0), .iv (.int .i64 0), .iv (.int .i64 0), .iv (.int .i64 0), .iv (.str ⟨#[]⟩), .iv (.int .i64 0), .iv (.str ⟨#[]⟩), .iv (.sl true 0 [])], [], none⟩,
    ⟨none, .store 8 (.t 10) (.t 33), [], none⟩])
  (.seq (.seq (.region false [⟨some 34, .fad 3 (.t 10), [], none⟩,
    ⟨some 35, .load false 1 (.t 34), [], none⟩,
    ⟨some 36, .bin .neq (.t 35) (.k (.one (.iv (.int .i64 2)))), [], none⟩,
    ⟨some 37, .mov none (.t 36), [], none⟩,
    ⟨some 38, .mov none (.t 5), [], some (37, true)⟩,
    ⟨some 39, .mov none (.t 1), [], some (37, true)⟩,
    ⟨some 40, .blt .max [.t 39, .k (.one (.iv (.int .i64 0)))], [], some (37, true)⟩,
    ⟨some 41, .bin .gtr (.t 38) (.t 40), [], some (37, true)⟩,
    ⟨some 42, .pick (.t 37) (.t 41) (.k (.one (.iv (.bool false)))), [], none⟩])
  (.cond (.t 42) (.seq (.region false [⟨some 43, .fad 1 (.t 8), [], none⟩,
    ⟨some 44, .load true 64 (.t 43), [], none⟩,
    ⟨some 45, .fad 0 (.t 10), [], none⟩,
    ⟨some 46, .load true 2 (.t 45), [], none⟩,
    ⟨some 47, .call 23 [(false, .t 44), (false, .t 46)], [], none⟩,
    ⟨some 48, .fad 1 (.t 8), [], none⟩,
    ⟨none, .store 64 (.t 48) (.t 47), [], none⟩])
  (.seq (.region false [⟨some 49, .mov none (.t 5), [], none⟩,
    ⟨some 50, .bin .sub (.t 49) (.k (.one (.iv (.int .i64 1)))), [], none⟩,
    ⟨some 5, .mov none (.t 50), [], none⟩])
  (.exit 3))) (.skip)))
  (.region true [⟨some 51, .fad 0 (.t 8), [], none⟩,
    ⟨some 52, .load false 1 (.t 51), [0], none⟩,
    ⟨some 53, .load true 8 (.t 10), [], none⟩,
    ⟨some 54, .call 97 [(false, .t 53)], [2], none⟩,
    ⟨some 55, .mks false 8 [.t 54], [3], none⟩,
    ⟨some 56, .blt (.append 8 96) [.t 52, .t 55], [4, 1], none⟩,
    ⟨some 57, .fad 0 (.t 8), [5], none⟩,
    ⟨none, .store 1 (.t 57) (.t 56), [6], none⟩]))))
  (.region false [⟨some 58, .bin .add (.t 30) (.k (.one (.iv (.int .i64 1)))), [], none⟩,
    ⟨some 30, .mov none (.t 58), [], none⟩])))
def b55 : VCode := .seq (.region false [⟨some 2, .box (.t 0), [], none⟩,
    ⟨some 4, .new [.iv (.sl true 0 []), .iv (.arr 64 (List.replicate 64 (.int .i64 0)))], [], none⟩])
  (.seq (.region false [⟨some 5, .mov none (.k (.one (.iv (.int .i64 0)))), [], none⟩])
  (.seq (.seq (.region false [⟨some 11, .fad 0 (.t 2), [], none⟩,
    ⟨some 12, .load false 1 (.t 11), [], none⟩,
    ⟨some 13, .blt .len [.t 12], [], none⟩,
    ⟨some 14, .mov none (.k (.one (.iv (.int .i64 0)))), [], none⟩])
  (.block 0 (.loop false [1, 2, 4, 5, 12, 13, 14] l55_0)))
  (.seq (.region false [⟨some 24, .fad 1 (.t 2), [], none⟩,
    ⟨some 25, .load true 64 (.t 24), [], none⟩,
    ⟨some 26, .build [.fresh 8, .iv (.arr 64 (List.replicate 64 (.int .i64 0)))] [(1, 64, .t 25)], [], none⟩,
    ⟨some 8, .new [.iv (.sl true 0 []), .iv (.arr 64 (List.replicate 64 (.int .i64 0)))], [], none⟩,
    ⟨none, .store 65 (.t 8) (.t 26), [], none⟩])
  (.seq (.seq (.region false [⟨some 27, .fad 0 (.t 2), [], none⟩,
    ⟨some 28, .load false 1 (.t 27), [], none⟩,
    ⟨some 29, .blt .len [.t 28], [], none⟩,
    ⟨some 30, .mov none (.k (.one (.iv (.int .i64 0)))), [], none⟩])
  (.block 2 (.loop false [1, 4, 5, 8, 28, 29, 30] l55_1)))
  (.seq (.region false [⟨some 59, .load true 65 (.t 8), [], none⟩,
    ⟨none, .store 65 (.t 4) (.t 59), [], none⟩])
  (.ret))))))
def v55 : VFn := ⟨2, 60, [.c 4 true 65], b55⟩

theorem c55 : chkFn Try.prog 55 v55 = true := by kernel_rfl

/- scholia/past.Collect -/
def l56_0 : VCode := .seq (.region false [⟨some 15, .bin .lss (.t 14) (.t 13), [], none⟩])
  (.seq (.cond (.t 15) (.skip) (.exit 0))
  (.seq (.block 1 (.seq (.region false [⟨some 16, .ixS 8 (.t 12) (.t 14), [], none⟩,
    ⟨some 17, .load true 8 (.t 16), [], none⟩,
    ⟨some 7, .new [.iv (.int .i64 0), .iv (.int .i64 0), .iv (.int .i64 0), .iv (.int .i64 0), .iv (.str ⟨#[]⟩), .iv (.int .i64 0), .iv (.str ⟨#[]⟩), .iv (.sl true 0 [])], [], none⟩,
    ⟨none, .store 8 (.t 7) (.t 17), [], none⟩])
  (.seq (.seq (.region false [⟨some 18, .load true 64 (.t 3), [], none⟩,
    ⟨some 19, .fad 0 (.t 7), [], none⟩,
    ⟨some 20, .load true 2 (.t 19), [], none⟩,
    ⟨some 21, .call 21 [(false, .t 18), (false, .t 20)], [], none⟩])
  (.cond (.t 21) (.seq (.region false [⟨some 22, .fad 1 (.t 5), [], none⟩,
    ⟨some 23, .load true 64 (.t 22), [], none⟩,
    ⟨some 24, .fad 0 (.t 7), [], none⟩,
    ⟨some 25, .load true 2 (.t 24), [], none⟩,
    ⟨some 26, .call 23 [(false, .t 23), (false, .t 25)], [], none⟩,
    ⟨some 27, .fad 1 (.t 5), [], none⟩,
    ⟨none, .store 64 (.t 27) (.t 26), [], none⟩])
  (.exit 1)) (.skip)))
  (.region true [⟨some 28, .fad 0 (.t 5), [], none⟩,
    ⟨some 29, .load false 1 (.t 28), [0], none⟩,
    ⟨some 30, .load true 8 (.t 7), [], none⟩,
    ⟨some 31, .call 97 [(false, .t 30)], [2], none⟩,
    ⟨some 32, .mks false 8 [.t 31], [3], none⟩,
    ⟨some 33, .blt (.append 8 96) [.t 29, .t 32], [4, 1], none⟩,
    ⟨some 34, .fad 0 (.t 5), [5], none⟩,
    ⟨none, .store 1 (.t 34) (.t 33), [6], none⟩]))))
  (.region false [⟨some 35, .bin .add (.t 14) (.k (.one (.iv (.int .i64 1)))), [], none⟩,
    ⟨some 14, .mov none (.t 35), [], none⟩])))
def b56 : VCode := .seq (.region false [⟨some 2, .box (.t 0), [], none⟩,
    ⟨some 3, .box (.t 1), [], none⟩,
    ⟨some 4, .new [.iv (.sl true 0 []), .iv (.arr 64 (List.replicate 64 (.int .i64 0)))], [], none⟩])
  (.seq (.region false [⟨some 8, .fad 1 (.t 2), [], none⟩,
    ⟨some 9, .load true 64 (.t 8), [], none⟩,
    ⟨some 10, .build [.fresh 8, .iv (.arr 64 (List.replicate 64 (.int .i64 0)))] [(1, 64, .t 9)], [], none⟩,
    ⟨some 5, .new [.iv (.sl true 0 []), .iv (.arr 64 (List.replicate 64 (.int .i64 0)))], [], none⟩,
    ⟨none, .store 65 (.t 5) (.t 10), [], none⟩])
  (.seq (.seq (.region false [⟨some 11, .fad 0 (.t 2), [], none⟩,
    ⟨some 12, .load false 1 (.t 11), [], none⟩,
    ⟨some 13, .blt .len [.t 12], [], none⟩,
    ⟨some 14, .mov none (.k (.one (.iv (.int .i64 0)))), [], none⟩])
  (.block 0 (.loop false [3, 4, 5, 12, 13, 14] l56_0)))
  (.seq (.region false [⟨some 36, .load true 65 (.t 5), [], none⟩,
    ⟨none, .store 65 (.t 4) (.t 36), [], none⟩])
  (.ret))))
def v56 : VFn := ⟨2, 37, [.c 4 true 65], b56⟩

theorem c56 : chkFn Try.prog 56 v56 = true := by kernel_rfl

/- scholia/past.Drops -/
def l57_0 : VCode := .seq (.region false [⟨some 10, .bin .lss (.t 9) (.t 8), [], none⟩])
  (.seq (.cond (.t 10) (.skip) (.exit 0))
  (.seq (.block 1 (.seq (.region false [⟨some 11, .ixS 8 (.t 7) (.t 9), [], none⟩,
    ⟨some 12, .load true 8 (.t 11), [], none⟩,
    ⟨some 5, .new [.iv (.int .i64 0), .iv (.int .i64 0), .iv (.int .i64 0), .iv (.int .i64 0), .iv (.str ⟨#[]⟩), .iv (.int .i64 0), .iv (.str ⟨#[]⟩), .iv (.sl true 0 [])], [], none⟩,
    ⟨none, .store 8 (.t 5) (.t 12), [], none⟩])
  (.seq (.region false [⟨some 13, .fad 3 (.t 5), [], none⟩,
    ⟨some 14, .load false 1 (.t 13), [], none⟩,
    ⟨some 15, .bin .eql (.t 14) (.k (.one (.iv (.int .i64 2)))), [], none⟩])
  (.cond (.t 15) (.region false [⟨some 16, .mov none (.t 3), [], none⟩,
    ⟨some 17, .bin .add (.t 16) (.k (.one (.iv (.int .i64 1)))), [], none⟩,
    ⟨some 3, .mov none (.t 17), [], none⟩]) (.skip)))))
  (.region false [⟨some 18, .bin .add (.t 9) (.k (.one (.iv (.int .i64 1)))), [], none⟩,
    ⟨some 9, .mov none (.t 18), [], none⟩])))
def b57 : VCode := .seq (.region false [⟨some 1, .box (.t 0), [], none⟩,
    ⟨some 2, .mov none (.k (.one (.iv (.int .i64 0)))), [], none⟩])
  (.seq (.region false [⟨some 3, .mov none (.k (.one (.iv (.int .i64 0)))), [], none⟩])
  (.seq (.seq (.region false [⟨some 6, .fad 0 (.t 1), [], none⟩,
    ⟨some 7, .load false 1 (.t 6), [], none⟩,
    ⟨some 8, .blt .len [.t 7], [], none⟩,
    ⟨some 9, .mov none (.k (.one (.iv (.int .i64 0)))), [], none⟩])
  (.block 0 (.loop false [3, 7, 8, 9] l57_0)))
  (.seq (.region false [⟨some 19, .mov none (.t 3), [], none⟩,
    ⟨some 2, .mov none (.t 19), [], none⟩])
  (.ret))))
def v57 : VFn := ⟨1, 20, [.t 2], b57⟩

theorem c57 : chkFn Try.prog 57 v57 = true := by kernel_rfl

/- scholia/scholiaref08.Has -/
def b22 : VCode := .seq (.region false [⟨some 2, .box (.t 0), [], none⟩,
    ⟨some 3, .box (.t 1), [], none⟩,
    ⟨some 4, .mov none (.k (.one (.iv (.bool false)))), [], none⟩])
  (.seq (.region true [⟨some 5, .load true 2 (.t 3), [], none⟩,
    ⟨some 6, .call 19 [(false, .t 5)], [0], none⟩,
    ⟨some 7, .mov none (.t 6), [1], none⟩,
    ⟨some 8, .fad 0 (.t 3), [2], some (7, true)⟩,
    ⟨some 9, .load false 1 (.t 8), [3], some (7, true)⟩,
    ⟨some 10, .ixA 64 1 (.t 2) (.t 9), [4], some (7, true)⟩,
    ⟨some 11, .load false 1 (.t 10), [5], some (7, true)⟩,
    ⟨some 12, .fad 1 (.t 3), [2], some (7, true)⟩,
    ⟨some 13, .load false 1 (.t 12), [7], some (7, true)⟩,
    ⟨some 14, .bin .geq (.t 11) (.t 13), [8, 6], some (7, true)⟩,
    ⟨some 15, .pick (.t 7) (.t 14) (.k (.one (.iv (.bool false)))), [9], none⟩,
    ⟨some 4, .mov none (.t 15), [10], none⟩])
  (.ret))
def v22 : VFn := ⟨2, 16, [.t 4], b22⟩

theorem c22 : chkFn Try.prog 22 v22 = true := by kernel_rfl

/- scholia/scholiaref08.Within -/
def l31_0 : VCode := .seq (.region false [⟨some 9, .bin .lss (.t 8) (.k (.one (.iv (.int .i64 64)))), [], none⟩])
  (.seq (.cond (.t 9) (.skip) (.exit 0))
  (.seq (.block 1 (.seq (.region false [⟨some 10, .mov none (.t 8), [], none⟩,
    ⟨some 11, .ixV 64 (.t 7) (.t 8), [], none⟩,
    ⟨some 5, .mov none (.t 10), [], none⟩,
    ⟨some 6, .mov none (.t 11), [], none⟩])
  (.seq (.region false [⟨some 12, .mov none (.t 6), [], none⟩,
    ⟨some 13, .mov none (.t 5), [], none⟩,
    ⟨some 14, .ixA 64 1 (.t 3) (.t 13), [], none⟩,
    ⟨some 15, .load false 1 (.t 14), [], none⟩,
    ⟨some 16, .bin .gtr (.t 12) (.t 15), [], none⟩])
  (.cond (.t 16) (.seq (.region false [⟨some 4, .mov none (.k (.one (.iv (.bool false)))), [], none⟩])
  (.ret)) (.skip)))))
  (.region false [⟨some 17, .bin .add (.t 8) (.k (.one (.iv (.int .i64 1)))), [], none⟩,
    ⟨some 8, .mov none (.t 17), [], none⟩])))
def b31 : VCode := .seq (.region false [⟨some 2, .box (.t 0), [], none⟩,
    ⟨some 3, .box (.t 1), [], none⟩,
    ⟨some 4, .mov none (.k (.one (.iv (.bool false)))), [], none⟩])
  (.seq (.seq (.region false [⟨some 7, .load true 64 (.t 2), [], none⟩,
    ⟨some 8, .mov none (.k (.one (.iv (.int .i64 0)))), [], none⟩])
  (.block 0 (.loop false [3, 7, 8] l31_0)))
  (.seq (.region false [⟨some 4, .mov none (.k (.one (.iv (.bool true)))), [], none⟩])
  (.ret)))
def v31 : VFn := ⟨2, 18, [.t 4], b31⟩

theorem c31 : chkFn Try.prog 31 v31 = true := by kernel_rfl

/- scholia/scholialaw13.awake -/
def b54 : VCode := .seq (.region false [⟨some 0, .mov none (.k (.one (.iv (.bool false)))), [], none⟩])
  (.seq (.region false [⟨some 3, .build [.iv (.int .i64 0), .iv (.int .i64 0)] [(0, 1, .k (.one (.iv (.int .i64 0)))), (1, 1, .k (.one (.iv (.int .i64 1))))], [], none⟩,
    ⟨some 4, .build [.iv (.int .i64 0), .iv (.int .i64 0), .iv (.int .i64 0), .iv (.int .i64 0), .iv (.str ⟨#[]⟩), .iv (.int .i64 0), .iv (.str ⟨#[]⟩), .iv (.sl true 0 [])] [(0, 2, .t 3), (3, 1, .k (.one (.iv (.int .i64 1))))], [], none⟩,
    ⟨some 5, .build [.iv (.int .i64 0), .iv (.int .i64 0)] [(0, 1, .k (.one (.iv (.int .i64 0)))), (1, 1, .k (.one (.iv (.int .i64 2))))], [], none⟩,
    ⟨some 6, .build [.iv (.int .i64 0), .iv (.int .i64 0), .iv (.int .i64 0), .iv (.int .i64 0), .iv (.str ⟨#[]⟩), .iv (.int .i64 0), .iv (.str ⟨#[]⟩), .iv (.sl true 0 [])] [(0, 2, .t 5), (3, 1, .k (.one (.iv (.int .i64 2))))], [], none⟩,
    ⟨some 7, .build [.iv (.int .i64 0), .iv (.int .i64 0)] [(0, 1, .k (.one (.iv (.int .i64 1)))), (1, 1, .k (.one (.iv (.int .i64 1))))], [], none⟩,
    ⟨some 8, .build [.iv (.int .i64 0), .iv (.int .i64 0), .iv (.int .i64 0), .iv (.int .i64 0), .iv (.str ⟨#[]⟩), .iv (.int .i64 0), .iv (.str ⟨#[]⟩), .iv (.sl true 0 [])] [(0, 2, .t 7), (3, 1, .k (.one (.iv (.int .i64 1))))], [], none⟩,
    ⟨some 9, .mks false 8 [.t 4, .t 6, .t 8], [], none⟩,
    ⟨some 10, .build [.iv (.sl true 0 []), .iv (.arr 64 (List.replicate 64 (.int .i64 0)))] [(0, 1, .t 9)], [], none⟩,
    ⟨some 1, .new [.iv (.sl true 0 []), .iv (.arr 64 (List.replicate 64 (.int .i64 0)))], [], none⟩,
    ⟨none, .store 65 (.t 1) (.t 10), [], none⟩])
  (.seq (.region false [⟨some 11, .load true 65 (.t 1), [], none⟩,
    ⟨some 12, .call 55 [(false, .t 11), (false, .k (.one (.iv (.int .i64 1))))], [], none⟩,
    ⟨some 2, .new [.iv (.sl true 0 []), .iv (.arr 64 (List.replicate 64 (.int .i64 0)))], [], none⟩,
    ⟨none, .store 65 (.t 2) (.t 12), [], none⟩])
  (.seq (.region false [⟨some 13, .fad 0 (.t 2), [], none⟩,
    ⟨some 14, .load false 1 (.t 13), [], none⟩,
    ⟨some 15, .blt .len [.t 14], [], none⟩,
    ⟨some 16, .bin .eql (.t 15) (.k (.one (.iv (.int .i64 2)))), [], none⟩,
    ⟨some 17, .mov none (.t 16), [], none⟩,
    ⟨some 18, .fad 0 (.t 2), [], some (17, true)⟩,
    ⟨some 19, .load false 1 (.t 18), [], some (17, true)⟩,
    ⟨some 20, .ixS 8 (.t 19) (.k (.one (.iv (.int .i64 0)))), [], some (17, true)⟩,
    ⟨some 21, .fad 3 (.t 20), [], some (17, true)⟩,
    ⟨some 22, .load false 1 (.t 21), [], some (17, true)⟩,
    ⟨some 23, .bin .eql (.t 22) (.k (.one (.iv (.int .i64 2)))), [], some (17, true)⟩,
    ⟨some 24, .pick (.t 17) (.t 23) (.k (.one (.iv (.bool false)))), [], none⟩,
    ⟨some 25, .mov none (.t 24), [], none⟩,
    ⟨some 26, .fad 1 (.t 2), [], some (25, true)⟩,
    ⟨some 27, .ixA 64 1 (.t 26) (.k (.one (.iv (.int .i64 0)))), [], some (25, true)⟩,
    ⟨some 28, .load false 1 (.t 27), [], some (25, true)⟩,
    ⟨some 29, .bin .eql (.t 28) (.k (.one (.iv (.int .i64 1)))), [], some (25, true)⟩,
    ⟨some 30, .pick (.t 25) (.t 29) (.k (.one (.iv (.bool false)))), [], none⟩,
    ⟨some 31, .mov none (.t 30), [], none⟩,
    ⟨some 32, .load true 65 (.t 2), [], some (31, true)⟩,
    ⟨some 33, .call 57 [(false, .t 32)], [], some (31, true)⟩,
    ⟨some 34, .bin .eql (.t 33) (.k (.one (.iv (.int .i64 1)))), [], some (31, true)⟩,
    ⟨some 35, .pick (.t 31) (.t 34) (.k (.one (.iv (.bool false)))), [], none⟩,
    ⟨some 0, .mov none (.t 35), [], none⟩])
  (.ret))))
def v54 : VFn := ⟨0, 36, [.t 0], b54⟩

theorem c54 : chkFn Try.prog 54 v54 = true := by kernel_rfl

/- scholia/dots.With -/
def b23 : VCode := .seq (.region false [⟨some 2, .box (.t 0), [], none⟩,
    ⟨some 3, .box (.t 1), [], none⟩,
    ⟨some 4, .new [.iv (.arr 64 (List.replicate 64 (.int .i64 0)))], [], none⟩])
  (.seq (.seq (.region false [⟨some 5, .load true 2 (.t 3), [], none⟩,
    ⟨some 6, .call 18 [(false, .t 5)], [], none⟩])
  (.cond (.t 6) (.region true [⟨some 7, .fad 0 (.t 3), [], none⟩,
    ⟨some 8, .load false 1 (.t 7), [0], none⟩,
    ⟨some 9, .fad 0 (.t 3), [], none⟩,
    ⟨some 10, .load false 1 (.t 9), [2], none⟩,
    ⟨some 11, .ixA 64 1 (.t 2) (.t 10), [3], none⟩,
    ⟨some 12, .load false 1 (.t 11), [4], none⟩,
    ⟨some 13, .fad 1 (.t 3), [], none⟩,
    ⟨some 14, .load false 1 (.t 13), [6], none⟩,
    ⟨some 15, .blt .max [.t 12, .t 14], [7, 5], none⟩,
    ⟨some 16, .ixA 64 1 (.t 2) (.t 8), [8, 1], none⟩,
    ⟨none, .store 1 (.t 16) (.t 15), [9], none⟩]) (.skip)))
  (.seq (.region false [⟨some 17, .load true 64 (.t 2), [], none⟩,
    ⟨none, .store 64 (.t 4) (.t 17), [], none⟩])
  (.ret)))
def v23 : VFn := ⟨2, 18, [.c 4 true 64], b23⟩

theorem c23 : chkFn Try.prog 23 v23 = true := by kernel_rfl

/- scholia/dots.Has -/
def b21 : VCode := .seq (.region false [⟨some 2, .box (.t 0), [], none⟩,
    ⟨some 3, .box (.t 1), [], none⟩,
    ⟨some 4, .mov none (.k (.one (.iv (.bool false)))), [], none⟩])
  (.seq (.region true [⟨some 5, .load true 2 (.t 3), [], none⟩,
    ⟨some 6, .call 18 [(false, .t 5)], [0], none⟩,
    ⟨some 7, .mov none (.t 6), [1], none⟩,
    ⟨some 8, .fad 1 (.t 3), [2], some (7, true)⟩,
    ⟨some 9, .load false 1 (.t 8), [3], some (7, true)⟩,
    ⟨some 10, .fad 0 (.t 3), [2], some (7, true)⟩,
    ⟨some 11, .load false 1 (.t 10), [5], some (7, true)⟩,
    ⟨some 12, .ixA 64 1 (.t 2) (.t 11), [6], some (7, true)⟩,
    ⟨some 13, .load false 1 (.t 12), [7], some (7, true)⟩,
    ⟨some 14, .bin .leq (.t 9) (.t 13), [8, 4], some (7, true)⟩,
    ⟨some 15, .pick (.t 7) (.t 14) (.k (.one (.iv (.bool false)))), [9], none⟩,
    ⟨some 4, .mov none (.t 15), [10], none⟩])
  (.ret))
def v21 : VFn := ⟨2, 16, [.t 4], b21⟩

theorem c21 : chkFn Try.prog 21 v21 = true := by kernel_rfl

/- scholia/past.clone -/
def b97 : VCode := .seq (.region false [⟨some 1, .box (.t 0), [], none⟩,
    ⟨some 2, .new [.iv (.int .i64 0), .iv (.int .i64 0), .iv (.int .i64 0), .iv (.int .i64 0), .iv (.str ⟨#[]⟩), .iv (.int .i64 0), .iv (.str ⟨#[]⟩), .iv (.sl true 0 [])], [], none⟩])
  (.seq (.region false [⟨some 3, .fad 7 (.t 1), [], none⟩,
    ⟨some 4, .load false 1 (.t 3), [], none⟩,
    ⟨some 5, .call 83 [(false, .t 4)], [], none⟩,
    ⟨some 6, .fad 7 (.t 1), [], none⟩,
    ⟨none, .store 1 (.t 6) (.t 5), [], none⟩])
  (.seq (.region false [⟨some 7, .load true 8 (.t 1), [], none⟩,
    ⟨none, .store 8 (.t 2) (.t 7), [], none⟩])
  (.ret)))
def v97 : VFn := ⟨1, 8, [.c 2 true 8], b97⟩

theorem c97 : chkFn Try.prog 97 v97 = true := by kernel_rfl

/- scholia/dots.Valid -/
def b18 : VCode := .seq (.region false [⟨some 1, .box (.t 0), [], none⟩,
    ⟨some 2, .mov none (.k (.one (.iv (.bool false)))), [], none⟩])
  (.seq (.region false [⟨some 3, .fad 0 (.t 1), [], none⟩,
    ⟨some 4, .load false 1 (.t 3), [], none⟩,
    ⟨some 5, .bin .geq (.t 4) (.k (.one (.iv (.int .i64 0)))), [], none⟩,
    ⟨some 6, .mov none (.t 5), [], none⟩,
    ⟨some 7, .fad 0 (.t 1), [], some (6, true)⟩,
    ⟨some 8, .load false 1 (.t 7), [], some (6, true)⟩,
    ⟨some 9, .bin .lss (.t 8) (.k (.one (.iv (.int .i64 64)))), [], some (6, true)⟩,
    ⟨some 10, .pick (.t 6) (.t 9) (.k (.one (.iv (.bool false)))), [], none⟩,
    ⟨some 11, .mov none (.t 10), [], none⟩,
    ⟨some 12, .fad 1 (.t 1), [], some (11, true)⟩,
    ⟨some 13, .load false 1 (.t 12), [], some (11, true)⟩,
    ⟨some 14, .bin .geq (.t 13) (.k (.one (.iv (.int .i64 1)))), [], some (11, true)⟩,
    ⟨some 15, .pick (.t 11) (.t 14) (.k (.one (.iv (.bool false)))), [], none⟩,
    ⟨some 16, .mov none (.t 15), [], none⟩,
    ⟨some 17, .fad 1 (.t 1), [], some (16, true)⟩,
    ⟨some 18, .load false 1 (.t 17), [], some (16, true)⟩,
    ⟨some 19, .bin .leq (.t 18) (.k (.one (.iv (.int .i64 1073741824)))), [], some (16, true)⟩,
    ⟨some 20, .pick (.t 16) (.t 19) (.k (.one (.iv (.bool false)))), [], none⟩,
    ⟨some 2, .mov none (.t 20), [], none⟩])
  (.ret))
def v18 : VFn := ⟨1, 21, [.t 2], b18⟩

theorem c18 : chkFn Try.prog 18 v18 = true := by kernel_rfl

/- scholia/scholiaref08.Valid -/
def b19 : VCode := .seq (.region false [⟨some 1, .box (.t 0), [], none⟩,
    ⟨some 2, .mov none (.k (.one (.iv (.bool false)))), [], none⟩])
  (.seq (.region false [⟨some 3, .fad 0 (.t 1), [], none⟩,
    ⟨some 4, .load false 1 (.t 3), [], none⟩,
    ⟨some 5, .bin .geq (.t 4) (.k (.one (.iv (.int .i64 0)))), [], none⟩,
    ⟨some 6, .mov none (.t 5), [], none⟩,
    ⟨some 7, .fad 0 (.t 1), [], some (6, true)⟩,
    ⟨some 8, .load false 1 (.t 7), [], some (6, true)⟩,
    ⟨some 9, .bin .leq (.t 8) (.k (.one (.iv (.int .i64 63)))), [], some (6, true)⟩,
    ⟨some 10, .pick (.t 6) (.t 9) (.k (.one (.iv (.bool false)))), [], none⟩,
    ⟨some 11, .mov none (.t 10), [], none⟩,
    ⟨some 12, .fad 1 (.t 1), [], some (11, true)⟩,
    ⟨some 13, .load false 1 (.t 12), [], some (11, true)⟩,
    ⟨some 14, .bin .geq (.t 13) (.k (.one (.iv (.int .i64 1)))), [], some (11, true)⟩,
    ⟨some 15, .pick (.t 11) (.t 14) (.k (.one (.iv (.bool false)))), [], none⟩,
    ⟨some 16, .mov none (.t 15), [], none⟩,
    ⟨some 17, .fad 1 (.t 1), [], some (16, true)⟩,
    ⟨some 18, .load false 1 (.t 17), [], some (16, true)⟩,
    ⟨some 19, .bin .leq (.t 18) (.k (.one (.iv (.int .i64 1073741824)))), [], some (16, true)⟩,
    ⟨some 20, .pick (.t 16) (.t 19) (.k (.one (.iv (.bool false)))), [], none⟩,
    ⟨some 2, .mov none (.t 20), [], none⟩])
  (.ret))
def v19 : VFn := ⟨1, 21, [.t 2], b19⟩

theorem c19 : chkFn Try.prog 19 v19 = true := by kernel_rfl

def tab : List (Nat × VFn) := [(11, v11), (53, v53), (55, v55), (56, v56), (57, v57), (22, v22), (31, v31), (54, v54), (23, v23), (21, v21), (97, v97), (18, v18), (19, v19)]

theorem tab_ok : TabOK Try.prog (lookT tab) := tabOK_cons c11 (tabOK_cons c53 (tabOK_cons c55 (tabOK_cons c56 (tabOK_cons c57 (tabOK_cons c22 (tabOK_cons c31 (tabOK_cons c54 (tabOK_cons c23 (tabOK_cons c21 (tabOK_cons c97 (tabOK_cons c18 (tabOK_cons c19 tabOK_nil))))))))))))

def clones : List (Nat × Nat × Nat) := [(83, 2, 16)]

theorem clones_ok : chkClones Try.prog clones = true := by kernel_rfl

theorem mixed : Try.prog.follows .mixedOrders = true := by kernel_rfl

theorem pr_ok : PrOK Try.prog (fun _ => clonePr clones) := fun _ _ _ => clonePr_ok mixed clones_ok

theorem pr_mono : PrMono (fun _ => clonePr clones) := const_mono

abbrev Pl (f : Nat) (vs : List FV) (v : FV) (bs : List Blk) : Prop := Plays (lookT tab) (fun _ => clonePr clones) f vs [] (v, bs)

end Go.Proofs.Ytomchclmnmhjaaa
