/- The code of the functions that a statement reaches, as V-code, checked against the program. Printed by a program. -/
import Derived.Test.YtomchclmnmhjaaaV3
import Derived.Test.YtomchclmnmhjaaaChecked
import Derived.KernelRfl
set_option maxRecDepth 100000
namespace Go.Proofs.Ytomchclmnmhjaaa
open Go GoV

/- scholia/scholialaw13.PastChanges -/
def b12 : VCode := .seq (.region false [⟨some 4, .box (.t 0), [], none⟩,
    ⟨some 5, .box (.t 1), [], none⟩,
    ⟨some 7, .box (.t 3), [], none⟩,
    ⟨some 8, .mov none (.k (.one (.iv (.bool false)))), [], none⟩])
  (.seq (.seq (.region false [⟨some 9, .fad 0 (.t 4), [], none⟩,
    ⟨some 10, .load false 1 (.t 9), [], none⟩,
    ⟨some 11, .load true 8 (.t 5), [], none⟩,
    ⟨some 12, .mks false 8 [.t 11], [], none⟩,
    ⟨some 13, .mks false 1 [.t 10, .t 12], [], none⟩,
    ⟨some 14, .call 53 [(false, .t 13)], [], none⟩,
    ⟨some 15, .un .not (.t 14), [], none⟩])
  (.cond (.t 15) (.seq (.region false [⟨some 16, .call 54 [], [], none⟩,
    ⟨some 8, .mov none (.t 16), [], none⟩])
  (.ret)) (.skip)))
  (.seq (.region true [⟨some 17, .load true 65 (.t 4), [], none⟩,
    ⟨some 18, .load true 8 (.t 5), [], none⟩,
    ⟨some 19, .call 59 [(false, .t 17), (false, .t 18)], [1, 0], none⟩,
    ⟨some 20, .load true 65 (.t 4), [], none⟩,
    ⟨some 21, .load true 8 (.t 5), [], none⟩,
    ⟨some 22, .call 60 [(false, .t 20), (false, .t 21)], [4, 3, 2], none⟩,
    ⟨some 23, .call 58 [(false, .t 19), (false, .t 22)], [5], none⟩,
    ⟨some 24, .mov none (.t 23), [6], none⟩,
    ⟨some 25, .load true 65 (.t 4), [7], some (24, true)⟩,
    ⟨some 26, .mov none (.t 2), [7], some (24, true)⟩,
    ⟨some 27, .call 55 [(false, .t 25), (false, .t 26)], [9, 8], some (24, true)⟩,
    ⟨some 28, .load true 65 (.t 4), [7], some (24, true)⟩,
    ⟨some 29, .mov none (.t 2), [7], some (24, true)⟩,
    ⟨some 30, .call 61 [(false, .t 28), (false, .t 29)], [12, 11, 10], some (24, true)⟩,
    ⟨some 31, .call 58 [(false, .t 27), (false, .t 30)], [13], some (24, true)⟩,
    ⟨some 32, .pick (.t 24) (.t 31) (.k (.one (.iv (.bool false)))), [14], none⟩,
    ⟨some 33, .mov none (.t 32), [15], none⟩,
    ⟨some 34, .load true 65 (.t 4), [16], some (33, true)⟩,
    ⟨some 35, .load true 64 (.t 7), [16], some (33, true)⟩,
    ⟨some 36, .call 56 [(false, .t 34), (false, .t 35)], [18, 17], some (33, true)⟩,
    ⟨some 37, .load true 65 (.t 4), [16], some (33, true)⟩,
    ⟨some 38, .load true 64 (.t 7), [16], some (33, true)⟩,
    ⟨some 39, .call 62 [(false, .t 37), (false, .t 38)], [21, 20, 19], some (33, true)⟩,
    ⟨some 40, .call 58 [(false, .t 36), (false, .t 39)], [22], some (33, true)⟩,
    ⟨some 41, .pick (.t 33) (.t 40) (.k (.one (.iv (.bool false)))), [23], none⟩,
    ⟨some 42, .mov none (.t 41), [24], none⟩,
    ⟨some 43, .call 54 [], [25], some (42, true)⟩,
    ⟨some 44, .pick (.t 42) (.t 43) (.k (.one (.iv (.bool false)))), [26], none⟩,
    ⟨some 8, .mov none (.t 44), [27], none⟩])
  (.ret)))
def v12 : VFn := ⟨4, 45, [.t 8], b12⟩

theorem c12 : chkFn Try.prog 12 v12 = true := by kernel_rfl

/- scholia/scholialaw13.PastAll -/
def l13_0 : VCode := .seq (.region false [⟨some 29, .bin .lss (.t 28) (.t 27), [], none⟩])
  (.seq (.cond (.t 29) (.skip) (.exit 0))
  (.seq (.block 1 (.seq (.region false [⟨some 30, .mov none (.t 28), [], none⟩,
    ⟨some 31, .ixS 8 (.t 26) (.t 28), [], none⟩,
    ⟨some 32, .load true 8 (.t 31), [], none⟩,
    ⟨some 11, .new [.iv (.int .i64 0), .iv (.int .i64 0), .iv (.int .i64 0), .iv (.int .i64 0), .iv (.str ⟨#[]⟩), .iv (.int .i64 0), .iv (.str ⟨#[]⟩), .iv (.sl true 0 [])], [], none⟩,
    ⟨some 10, .mov none (.t 30), [], none⟩,
    ⟨none, .store 8 (.t 11) (.t 32), [], none⟩])
  (.seq (.region false [⟨some 33, .load true 65 (.t 9), [], none⟩,
    ⟨some 34, .load true 8 (.t 11), [], none⟩,
    ⟨some 35, .call 59 [(false, .t 33), (false, .t 34)], [], none⟩,
    ⟨none, .store 65 (.t 9) (.t 35), [], none⟩])
  (.seq (.region false [⟨some 36, .mov none (.t 10), [], none⟩,
    ⟨some 37, .bin .rem (.t 36) (.k (.one (.iv (.int .i64 3)))), [], none⟩,
    ⟨some 38, .bin .eql (.t 37) (.k (.one (.iv (.int .i64 2)))), [], none⟩])
  (.cond (.t 38) (.region false [⟨some 39, .load true 65 (.t 9), [], none⟩,
    ⟨some 40, .mov none (.t 1), [], none⟩,
    ⟨some 41, .call 55 [(false, .t 39), (false, .t 40)], [], none⟩,
    ⟨none, .store 65 (.t 9) (.t 41), [], none⟩]) (.skip))))))
  (.region false [⟨some 42, .bin .add (.t 28) (.k (.one (.iv (.int .i64 1)))), [], none⟩,
    ⟨some 28, .mov none (.t 42), [], none⟩])))
def l13_2 : VCode := .seq (.region false [⟨some 77, .bin .lss (.t 76) (.t 75), [], none⟩])
  (.seq (.cond (.t 77) (.skip) (.exit 4))
  (.seq (.block 5 (.seq (.region false [⟨some 78, .ixS 8 (.t 74) (.t 76), [], none⟩,
    ⟨some 79, .load true 8 (.t 78), [], none⟩,
    ⟨some 19, .new [.iv (.int .i64 0), .iv (.int .i64 0), .iv (.int .i64 0), .iv (.int .i64 0), .iv (.str ⟨#[]⟩), .iv (.int .i64 0), .iv (.str ⟨#[]⟩), .iv (.sl true 0 [])], [], none⟩,
    ⟨none, .store 8 (.t 19) (.t 79), [], none⟩])
  (.region false [⟨some 80, .mov none (.t 17), [], none⟩,
    ⟨some 81, .mov none (.t 80), [], none⟩,
    ⟨some 82, .fad 0 (.t 19), [], some (81, false)⟩,
    ⟨some 83, .load true 2 (.t 82), [], some (81, false)⟩,
    ⟨some 84, .fad 0 (.t 16), [], some (81, false)⟩,
    ⟨some 85, .load true 2 (.t 84), [], some (81, false)⟩,
    ⟨some 86, .eqa .eql ([.int] ++ [.int]) (.t 83) (.t 85), [], some (81, false)⟩,
    ⟨some 87, .pick (.t 81) (.k (.one (.iv (.bool true)))) (.t 86), [], none⟩,
    ⟨some 17, .mov none (.t 87), [], none⟩])))
  (.region false [⟨some 88, .bin .add (.t 76) (.k (.one (.iv (.int .i64 1)))), [], none⟩,
    ⟨some 76, .mov none (.t 88), [], none⟩])))
def l13_1 : VCode := .seq (.region false [⟨some 61, .bin .lss (.t 60) (.t 59), [], none⟩])
  (.seq (.cond (.t 61) (.skip) (.exit 2))
  (.seq (.block 3 (.seq (.region false [⟨some 62, .ixS 8 (.t 58) (.t 60), [], none⟩,
    ⟨some 63, .load true 8 (.t 62), [], none⟩,
    ⟨some 16, .new [.iv (.int .i64 0), .iv (.int .i64 0), .iv (.int .i64 0), .iv (.int .i64 0), .iv (.str ⟨#[]⟩), .iv (.int .i64 0), .iv (.str ⟨#[]⟩), .iv (.sl true 0 [])], [], none⟩,
    ⟨none, .store 8 (.t 16) (.t 63), [], none⟩])
  (.seq (.seq (.region false [⟨some 64, .fad 0 (.t 16), [], none⟩,
    ⟨some 65, .load true 2 (.t 64), [], none⟩,
    ⟨some 66, .call 19 [(false, .t 65)], [], none⟩,
    ⟨some 67, .un .not (.t 66), [], none⟩,
    ⟨some 68, .mov none (.t 67), [], none⟩,
    ⟨some 69, .load true 64 (.t 12), [], some (68, false)⟩,
    ⟨some 70, .fad 0 (.t 16), [], some (68, false)⟩,
    ⟨some 71, .load true 2 (.t 70), [], some (68, false)⟩,
    ⟨some 72, .call 22 [(false, .t 69), (false, .t 71)], [], some (68, false)⟩,
    ⟨some 73, .pick (.t 68) (.k (.one (.iv (.bool true)))) (.t 72), [], none⟩])
  (.cond (.t 73) (.exit 3) (.skip)))
  (.seq (.region false [⟨some 17, .mov none (.k (.one (.iv (.bool false)))), [], none⟩])
  (.seq (.seq (.region false [⟨some 74, .mov none (.t 13), [], none⟩,
    ⟨some 75, .blt .len [.t 74], [], none⟩,
    ⟨some 76, .mov none (.k (.one (.iv (.int .i64 0)))), [], none⟩])
  (.block 4 (.loop false [12, 13, 16, 17, 58, 59, 60, 74, 75, 76] l13_2)))
  (.seq (.region false [⟨some 89, .mov none (.t 17), [], none⟩,
    ⟨some 90, .un .not (.t 89), [], none⟩])
  (.cond (.t 90) (.seq (.region false [⟨some 8, .mov none (.k (.one (.iv (.bool false)))), [], none⟩])
  (.ret)) (.skip))))))))
  (.region false [⟨some 91, .bin .add (.t 60) (.k (.one (.iv (.int .i64 1)))), [], none⟩,
    ⟨some 60, .mov none (.t 91), [], none⟩])))
def b13 : VCode := .seq (.region false [⟨some 6, .box (.t 2), [], none⟩,
    ⟨some 7, .box (.t 3), [], none⟩,
    ⟨some 8, .mov none (.k (.one (.iv (.bool false)))), [], none⟩])
  (.seq (.seq (.region false [⟨some 20, .mov none (.t 0), [], none⟩,
    ⟨some 21, .mks false 1 [.t 20], [], none⟩,
    ⟨some 22, .call 53 [(false, .t 21)], [], none⟩,
    ⟨some 23, .un .not (.t 22), [], none⟩])
  (.cond (.t 23) (.seq (.region false [⟨some 24, .call 54 [], [], none⟩,
    ⟨some 8, .mov none (.t 24), [], none⟩])
  (.ret)) (.skip)))
  (.seq (.region false [⟨some 25, .build [.fresh 8, .iv (.arr 64 (List.replicate 64 (.int .i64 0)))] [], [], none⟩,
    ⟨some 9, .new [.iv (.sl true 0 []), .iv (.arr 64 (List.replicate 64 (.int .i64 0)))], [], none⟩,
    ⟨none, .store 65 (.t 9) (.t 25), [], none⟩])
  (.seq (.seq (.region false [⟨some 26, .mov none (.t 0), [], none⟩,
    ⟨some 27, .blt .len [.t 26], [], none⟩,
    ⟨some 28, .mov none (.k (.one (.iv (.int .i64 0)))), [], none⟩])
  (.block 0 (.loop false [0, 1, 6, 7, 9, 26, 27, 28] l13_0)))
  (.seq (.region false [⟨some 43, .load true 65 (.t 9), [], none⟩,
    ⟨some 44, .load true 64 (.t 6), [], none⟩,
    ⟨some 45, .call 56 [(false, .t 43), (false, .t 44)], [], none⟩,
    ⟨none, .store 65 (.t 9) (.t 45), [], none⟩])
  (.seq (.region false [⟨some 46, .load true 64 (.t 7), [], none⟩,
    ⟨some 47, .fad 1 (.t 9), [], none⟩,
    ⟨some 48, .load true 64 (.t 47), [], none⟩,
    ⟨some 49, .call 29 [(false, .t 46), (false, .t 48)], [], none⟩,
    ⟨some 12, .new [.iv (.arr 64 (List.replicate 64 (.int .i64 0)))], [], none⟩,
    ⟨none, .store 64 (.t 12) (.t 49), [], none⟩])
  (.seq (.region false [⟨some 51, .load true 65 (.t 9), [], none⟩,
    ⟨some 52, .load true 64 (.t 12), [], none⟩,
    ⟨some 53, .call 63 [(false, .t 51), (false, .t 52), (false, .k (.one (.iv (.int .i64 1000))))], [], none⟩,
    ⟨some 50, .mov none (.t 53), [], none⟩,
    ⟨some 54, .ext 0 (.t 50), [], none⟩,
    ⟨some 55, .ext 1 (.t 50), [], none⟩,
    ⟨some 13, .mov none (.t 54), [], none⟩,
    ⟨some 14, .mov none (.t 55), [], none⟩])
  (.seq (.seq (.region false [⟨some 56, .mov none (.t 14), [], none⟩,
    ⟨some 57, .un .not (.t 56), [], none⟩])
  (.cond (.t 57) (.seq (.region false [⟨some 8, .mov none (.k (.one (.iv (.bool false)))), [], none⟩])
  (.ret)) (.skip)))
  (.seq (.seq (.region false [⟨some 58, .mov none (.t 0), [], none⟩,
    ⟨some 59, .blt .len [.t 58], [], none⟩,
    ⟨some 60, .mov none (.k (.one (.iv (.int .i64 0)))), [], none⟩])
  (.block 2 (.loop false [12, 13, 58, 59, 60] l13_1)))
  (.seq (.region false [⟨some 92, .call 54 [], [], none⟩,
    ⟨some 8, .mov none (.t 92), [], none⟩])
  (.ret))))))))))
def v13 : VFn := ⟨4, 93, [.t 8], b13⟩

theorem c13 : chkFn Try.prog 13 v13 = true := by kernel_rfl

/- scholia/scholialaw13.PastSince -/
def l14_0 : VCode := .seq (.region false [⟨some 42, .bin .lss (.t 41) (.t 40), [], none⟩])
  (.seq (.cond (.t 42) (.skip) (.exit 0))
  (.seq (.block 1 (.seq (.region false [⟨some 43, .ixS 8 (.t 39) (.t 41), [], none⟩,
    ⟨some 44, .load true 8 (.t 43), [], none⟩,
    ⟨some 15, .new [.iv (.int .i64 0), .iv (.int .i64 0), .iv (.int .i64 0), .iv (.int .i64 0), .iv (.str ⟨#[]⟩), .iv (.int .i64 0), .iv (.str ⟨#[]⟩), .iv (.sl true 0 [])], [], none⟩,
    ⟨none, .store 8 (.t 15) (.t 44), [], none⟩])
  (.seq (.region false [⟨some 45, .fad 3 (.t 15), [], none⟩,
    ⟨some 46, .load false 1 (.t 45), [], none⟩,
    ⟨some 47, .bin .eql (.t 46) (.k (.one (.iv (.int .i64 2)))), [], none⟩])
  (.cond (.t 47) (.region false [⟨some 48, .mov none (.t 13), [], none⟩,
    ⟨some 49, .bin .add (.t 48) (.k (.one (.iv (.int .i64 1)))), [], none⟩,
    ⟨some 13, .mov none (.t 49), [], none⟩]) (.skip)))))
  (.region false [⟨some 50, .bin .add (.t 41) (.k (.one (.iv (.int .i64 1)))), [], none⟩,
    ⟨some 41, .mov none (.t 50), [], none⟩])))
def b14 : VCode := .seq (.region false [⟨some 4, .box (.t 0), [], none⟩,
    ⟨some 5, .box (.t 1), [], none⟩,
    ⟨some 6, .box (.t 2), [], none⟩,
    ⟨some 8, .mov none (.k (.one (.iv (.bool false)))), [], none⟩])
  (.seq (.seq (.region false [⟨some 16, .fad 0 (.t 4), [], none⟩,
    ⟨some 17, .load false 1 (.t 16), [], none⟩,
    ⟨some 18, .fad 0 (.t 5), [], none⟩,
    ⟨some 19, .load false 1 (.t 18), [], none⟩,
    ⟨some 20, .mks false 1 [.t 17, .t 19], [], none⟩,
    ⟨some 21, .call 53 [(false, .t 20)], [], none⟩,
    ⟨some 22, .un .not (.t 21), [], none⟩])
  (.cond (.t 22) (.seq (.region false [⟨some 23, .call 54 [], [], none⟩,
    ⟨some 8, .mov none (.t 23), [], none⟩])
  (.ret)) (.skip)))
  (.seq (.region false [⟨some 25, .load true 65 (.t 4), [], none⟩,
    ⟨some 26, .load true 64 (.t 6), [], none⟩,
    ⟨some 27, .mov none (.t 3), [], none⟩,
    ⟨some 28, .call 63 [(false, .t 25), (false, .t 26), (false, .t 27)], [], none⟩,
    ⟨some 24, .mov none (.t 28), [], none⟩,
    ⟨some 29, .ext 0 (.t 24), [], none⟩,
    ⟨some 30, .ext 1 (.t 24), [], none⟩,
    ⟨some 9, .mov none (.t 29), [], none⟩,
    ⟨some 10, .mov none (.t 30), [], none⟩])
  (.seq (.region false [⟨some 32, .load true 65 (.t 4), [], none⟩,
    ⟨some 33, .load true 64 (.t 6), [], none⟩,
    ⟨some 34, .mov none (.t 3), [], none⟩,
    ⟨some 35, .call 64 [(false, .t 32), (false, .t 33), (false, .t 34)], [], none⟩,
    ⟨some 31, .mov none (.t 35), [], none⟩,
    ⟨some 36, .ext 0 (.t 31), [], none⟩,
    ⟨some 37, .ext 1 (.t 31), [], none⟩,
    ⟨some 11, .mov none (.t 36), [], none⟩,
    ⟨some 12, .mov none (.t 37), [], none⟩])
  (.seq (.region false [⟨some 13, .mov none (.k (.one (.iv (.int .i64 0)))), [], none⟩])
  (.seq (.seq (.region false [⟨some 38, .fad 0 (.t 4), [], none⟩,
    ⟨some 39, .load false 1 (.t 38), [], none⟩,
    ⟨some 40, .blt .len [.t 39], [], none⟩,
    ⟨some 41, .mov none (.k (.one (.iv (.int .i64 0)))), [], none⟩])
  (.block 0 (.loop false [4, 5, 9, 10, 11, 12, 13, 39, 40, 41] l14_0)))
  (.seq (.region true [⟨some 51, .mov none (.t 9), [], none⟩,
    ⟨some 52, .mov none (.t 11), [], none⟩,
    ⟨some 53, .call 65 [(false, .t 51), (false, .t 52)], [1, 0], none⟩,
    ⟨some 54, .mov none (.t 53), [2], none⟩,
    ⟨some 55, .mov none (.t 10), [3], some (54, true)⟩,
    ⟨some 56, .mov none (.t 12), [3], some (54, true)⟩,
    ⟨some 57, .eqs .eql .bool (.t 55) (.t 56), [5, 4], some (54, true)⟩,
    ⟨some 58, .pick (.t 54) (.t 57) (.k (.one (.iv (.bool false)))), [6], none⟩,
    ⟨some 59, .mov none (.t 58), [7], none⟩,
    ⟨some 60, .load true 65 (.t 4), [8], some (59, true)⟩,
    ⟨some 61, .load true 65 (.t 5), [8], some (59, true)⟩,
    ⟨some 62, .call 66 [(false, .t 60), (false, .t 61)], [10, 9], some (59, true)⟩,
    ⟨some 63, .load true 65 (.t 4), [8], some (59, true)⟩,
    ⟨some 64, .load true 65 (.t 5), [8], some (59, true)⟩,
    ⟨some 65, .call 67 [(false, .t 63), (false, .t 64)], [13, 12, 11], some (59, true)⟩,
    ⟨some 66, .call 58 [(false, .t 62), (false, .t 65)], [14], some (59, true)⟩,
    ⟨some 67, .pick (.t 59) (.t 66) (.k (.one (.iv (.bool false)))), [15], none⟩,
    ⟨some 68, .mov none (.t 67), [16], none⟩,
    ⟨some 69, .load true 65 (.t 4), [17], some (68, true)⟩,
    ⟨some 70, .call 57 [(false, .t 69)], [18], some (68, true)⟩,
    ⟨some 71, .mov none (.t 13), [17], some (68, true)⟩,
    ⟨some 72, .bin .eql (.t 70) (.t 71), [20, 19], some (68, true)⟩,
    ⟨some 73, .pick (.t 68) (.t 72) (.k (.one (.iv (.bool false)))), [21], none⟩,
    ⟨some 74, .mov none (.t 73), [22], none⟩,
    ⟨some 75, .load true 65 (.t 4), [23], some (74, true)⟩,
    ⟨some 76, .load true 65 (.t 5), [23], some (74, true)⟩,
    ⟨some 77, .call 68 [(false, .t 75), (false, .t 76)], [25, 24], some (74, true)⟩,
    ⟨some 78, .load true 65 (.t 4), [23], some (74, true)⟩,
    ⟨some 79, .load true 65 (.t 5), [23], some (74, true)⟩,
    ⟨some 80, .call 58 [(false, .t 78), (false, .t 79)], [28, 27, 26], some (74, true)⟩,
    ⟨some 81, .eqs .eql .bool (.t 77) (.t 80), [29], some (74, true)⟩,
    ⟨some 82, .pick (.t 74) (.t 81) (.k (.one (.iv (.bool false)))), [30], none⟩,
    ⟨some 83, .mov none (.t 82), [31], none⟩,
    ⟨some 84, .fad 0 (.t 4), [32], some (83, true)⟩,
    ⟨some 85, .load false 1 (.t 84), [33], some (83, true)⟩,
    ⟨some 86, .fad 0 (.t 5), [32], some (83, true)⟩,
    ⟨some 87, .load false 1 (.t 86), [35], some (83, true)⟩,
    ⟨some 88, .call 69 [(false, .t 85), (false, .t 87)], [36, 34], some (83, true)⟩,
    ⟨some 89, .fad 0 (.t 4), [32], some (83, true)⟩,
    ⟨some 90, .load false 1 (.t 89), [38], some (83, true)⟩,
    ⟨some 91, .fad 0 (.t 5), [32], some (83, true)⟩,
    ⟨some 92, .load false 1 (.t 91), [40], some (83, true)⟩,
    ⟨some 93, .call 65 [(false, .t 90), (false, .t 92)], [41, 39, 37], some (83, true)⟩,
    ⟨some 94, .eqs .eql .bool (.t 88) (.t 93), [42], some (83, true)⟩,
    ⟨some 95, .pick (.t 83) (.t 94) (.k (.one (.iv (.bool false)))), [43], none⟩,
    ⟨some 96, .mov none (.t 95), [44], none⟩,
    ⟨some 97, .call 54 [], [45], some (96, true)⟩,
    ⟨some 98, .pick (.t 96) (.t 97) (.k (.one (.iv (.bool false)))), [46], none⟩,
    ⟨some 8, .mov none (.t 98), [47], none⟩])
  (.ret)))))))
def v14 : VFn := ⟨4, 99, [.t 8], b14⟩

theorem c14 : chkFn Try.prog 14 v14 = true := by kernel_rfl

/- scholia/dots.Meet -/
def b27 : VCode := .seq (.region false [⟨some 2, .box (.t 0), [], none⟩,
    ⟨some 3, .box (.t 1), [], none⟩,
    ⟨some 4, .new [.iv (.arr 64 (List.replicate 64 (.int .i64 0)))], [], none⟩])
  (.seq (.region false [⟨some 5, .load true 64 (.t 2), [], none⟩,
    ⟨some 6, .load true 64 (.t 3), [], none⟩,
    ⟨some 7, .call 78 [(false, .t 5), (false, .t 6), (false, .k (.one (.iv (.fn 80))))], [], none⟩,
    ⟨none, .store 64 (.t 4) (.t 7), [], none⟩])
  (.ret))
def v27 : VFn := ⟨2, 8, [.c 4 true 64], b27⟩

theorem c27 : chkFn Try.prog 27 v27 = true := by kernel_rfl

/- scholia/scholiaref08.Meet -/
def l30_0 : VCode := .seq (.region false [⟨some 9, .bin .lss (.t 8) (.k (.one (.iv (.int .i64 64)))), [], none⟩])
  (.seq (.cond (.t 9) (.skip) (.exit 0))
  (.seq (.block 1 (.seq (.region false [⟨some 10, .mov none (.t 8), [], none⟩,
    ⟨some 11, .ixV 64 (.t 7) (.t 8), [], none⟩,
    ⟨some 5, .mov none (.t 10), [], none⟩,
    ⟨some 6, .mov none (.t 11), [], none⟩])
  (.seq (.region false [⟨some 12, .mov none (.t 6), [], none⟩,
    ⟨some 13, .mov none (.t 5), [], none⟩,
    ⟨some 14, .ixA 64 1 (.t 2) (.t 13), [], none⟩,
    ⟨some 15, .load false 1 (.t 14), [], none⟩,
    ⟨some 16, .bin .lss (.t 12) (.t 15), [], none⟩])
  (.cond (.t 16) (.region false [⟨some 17, .mov none (.t 5), [], none⟩,
    ⟨some 18, .mov none (.t 6), [], none⟩,
    ⟨some 19, .ixA 64 1 (.t 2) (.t 17), [], none⟩,
    ⟨none, .store 1 (.t 19) (.t 18), [], none⟩]) (.skip)))))
  (.region false [⟨some 20, .bin .add (.t 8) (.k (.one (.iv (.int .i64 1)))), [], none⟩,
    ⟨some 8, .mov none (.t 20), [], none⟩])))
def b30 : VCode := .seq (.region false [⟨some 2, .box (.t 0), [], none⟩,
    ⟨some 3, .box (.t 1), [], none⟩,
    ⟨some 4, .new [.iv (.arr 64 (List.replicate 64 (.int .i64 0)))], [], none⟩])
  (.seq (.seq (.region false [⟨some 7, .load true 64 (.t 3), [], none⟩,
    ⟨some 8, .mov none (.k (.one (.iv (.int .i64 0)))), [], none⟩])
  (.block 0 (.loop false [2, 4, 7, 8] l30_0)))
  (.seq (.region false [⟨some 21, .load true 64 (.t 2), [], none⟩,
    ⟨none, .store 64 (.t 4) (.t 21), [], none⟩])
  (.ret)))
def v30 : VFn := ⟨2, 22, [.c 4 true 64], b30⟩

theorem c30 : chkFn Try.prog 30 v30 = true := by kernel_rfl

/- scholia/dots.Meet$1 -/
def b80 : VCode := .seq (.region false [⟨some 4, .mov none (.k (.one (.iv (.int .i64 0)))), [], none⟩])
  (.seq (.region false [⟨some 5, .mov none (.t 0), [], none⟩,
    ⟨some 6, .mov none (.t 1), [], none⟩,
    ⟨some 7, .blt .min [.t 5, .t 6], [], none⟩,
    ⟨some 4, .mov none (.t 7), [], none⟩])
  (.ret))
def v80 : VFn := ⟨2, 8, [.t 4], b80⟩

theorem c80 : chkFn Try.prog 80 v80 = true := by kernel_rfl

/- scholia/scholiaplain.Few -/
def l53_1 : VCode := .seq (.region false [⟨some 25, .bin .lss (.t 24) (.t 23), [], none⟩])
  (.seq (.cond (.t 25) (.skip) (.exit 2))
  (.seq (.block 3 (.seq (.region false [⟨some 26, .ixS 8 (.t 22) (.t 24), [], none⟩,
    ⟨some 27, .load true 8 (.t 26), [], none⟩,
    ⟨some 8, .new [.iv (.int .i64 0), .iv (.int .i64 0), .iv (.int .i64 0), .iv (.int .i64 0), .iv (.str ⟨#[]⟩), .iv (.int .i64 0), .iv (.str ⟨#[]⟩), .iv (.sl true 0 [])], [], none⟩,
    ⟨none, .store 8 (.t 8) (.t 27), [], none⟩])
  (.seq (.seq (.region false [⟨some 28, .fad 7 (.t 8), [], none⟩,
    ⟨some 29, .load false 1 (.t 28), [], none⟩,
    ⟨some 30, .blt .len [.t 29], [], none⟩,
    ⟨some 31, .bin .gtr (.t 30) (.k (.one (.iv (.int .i64 130)))), [], none⟩])
  (.cond (.t 31) (.seq (.region false [⟨some 2, .mov none (.k (.one (.iv (.bool false)))), [], none⟩])
  (.ret)) (.skip)))
  (.seq (.region false [⟨some 32, .mov none (.t 4), [], none⟩,
    ⟨some 33, .fad 4 (.t 8), [], none⟩,
    ⟨some 34, .load false 1 (.t 33), [], none⟩,
    ⟨some 35, .blt .lenS [.t 34], [], none⟩,
    ⟨some 36, .blt .min [.t 35, .k (.one (.iv (.int .i64 8192)))], [], none⟩,
    ⟨some 37, .fad 6 (.t 8), [], none⟩,
    ⟨some 38, .load false 1 (.t 37), [], none⟩,
    ⟨some 39, .blt .lenS [.t 38], [], none⟩,
    ⟨some 40, .blt .min [.t 39, .k (.one (.iv (.int .i64 8192)))], [], none⟩,
    ⟨some 41, .bin .add (.t 36) (.t 40), [], none⟩,
    ⟨some 42, .bin .add (.t 32) (.t 41), [], none⟩,
    ⟨some 4, .mov none (.t 42), [], none⟩])
  (.seq (.region false [⟨some 43, .mov none (.t 4), [], none⟩,
    ⟨some 44, .bin .gtr (.t 43) (.k (.one (.iv (.int .i64 8192)))), [], none⟩])
  (.cond (.t 44) (.seq (.region false [⟨some 2, .mov none (.k (.one (.iv (.bool false)))), [], none⟩])
  (.ret)) (.skip)))))))
  (.region false [⟨some 45, .bin .add (.t 24) (.k (.one (.iv (.int .i64 1)))), [], none⟩,
    ⟨some 24, .mov none (.t 45), [], none⟩])))
def l53_0 : VCode := .seq (.region false [⟨some 12, .bin .lss (.t 11) (.t 10), [], none⟩])
  (.seq (.cond (.t 12) (.skip) (.exit 0))
  (.seq (.block 1 (.seq (.region false [⟨some 13, .ixS 1 (.t 9) (.t 11), [], none⟩,
    ⟨some 14, .load false 1 (.t 13), [], none⟩,
    ⟨some 6, .mov none (.t 14), [], none⟩])
  (.seq (.seq (.region false [⟨some 15, .mov none (.t 3), [], none⟩,
    ⟨some 16, .mov none (.t 6), [], none⟩,
    ⟨some 17, .blt .len [.t 16], [], none⟩,
    ⟨some 18, .blt .min [.t 17, .k (.one (.iv (.int .i64 100)))], [], none⟩,
    ⟨some 19, .bin .add (.t 15) (.t 18), [], none⟩,
    ⟨some 3, .mov none (.t 19), [], none⟩])
  (.seq (.region false [⟨some 20, .mov none (.t 3), [], none⟩,
    ⟨some 21, .bin .gtr (.t 20) (.k (.one (.iv (.int .i64 80)))), [], none⟩])
  (.cond (.t 21) (.seq (.region false [⟨some 2, .mov none (.k (.one (.iv (.bool false)))), [], none⟩])
  (.ret)) (.skip))))
  (.seq (.region false [⟨some 22, .mov none (.t 6), [], none⟩,
    ⟨some 23, .blt .len [.t 22], [], none⟩,
    ⟨some 24, .mov none (.k (.one (.iv (.int .i64 0)))), [], none⟩])
  (.block 2 (.loop false [3, 4, 9, 10, 11, 22, 23, 24] l53_1))))))
  (.region false [⟨some 46, .bin .add (.t 11) (.k (.one (.iv (.int .i64 1)))), [], none⟩,
    ⟨some 11, .mov none (.t 46), [], none⟩])))
def b53 : VCode := .seq (.region false [⟨some 2, .mov none (.k (.one (.iv (.bool false)))), [], none⟩])
  (.seq (.region false [⟨some 3, .mov none (.k (.one (.iv (.int .i64 0)))), [], none⟩,
    ⟨some 4, .mov none (.k (.one (.iv (.int .i64 0)))), [], none⟩])
  (.seq (.seq (.region false [⟨some 9, .mov none (.t 0), [], none⟩,
    ⟨some 10, .blt .len [.t 9], [], none⟩,
    ⟨some 11, .mov none (.k (.one (.iv (.int .i64 0)))), [], none⟩])
  (.block 0 (.loop false [3, 4, 9, 10, 11] l53_0)))
  (.seq (.region false [⟨some 2, .mov none (.k (.one (.iv (.bool true)))), [], none⟩])
  (.ret))))
def v53 : VFn := ⟨1, 47, [.t 2], b53⟩

theorem c53 : chkFn Try.prog 53 v53 = true := by kernel_rfl

/- scholia/scholialaw13.awake -/
def b54 : VCode := .seq (.region false [⟨some 0, .mov none (.k (.one (.iv (.bool false)))), [], none⟩])
  (.seq (.region false [⟨some 3, .build [.iv (.int .i64 0), .iv (.int .i64 0)] [(0, 1, .k (.one (.iv (.int .i64 0)))), (1, 1, .k (.one (.iv (.int .i64 1))))], [], none⟩,
    ⟨some 4, .build [.iv (.int .i64 0), .iv (.int .i64 0), .iv (.int .i64 0), .iv (.int .i64 0), .iv (.str ⟨#[]⟩), .iv (.int .i64 0), .iv (.str ⟨#[]⟩), .iv (.sl true 0 [])] [(0, 2, .t 3), (3, 1, .k (.one (.iv (.int .i64 1))))], [], none⟩,
    ⟨some 5, .build [.iv (.int .i64 0), .iv (.int .i64 0)] [(0, 1, .k (.one (.iv (.int .i64 0)))), (1, 1, .k (.one (.iv (.int .i64 2))))], [], none⟩,
    ⟨some 6, .build [.iv (.int .i64 0), .iv (.int .i64 0), .iv (.int .i64 0), .iv (.int .i64 0), .iv (.str ⟨#[]⟩), .iv (.int .i64 0), .iv (.str ⟨#[]⟩), .iv (.sl true 0 [])] [(0, 2, .t 5), (3, 1, .k (.one (.iv (.int .i64 2))))], [], none⟩,
    ⟨some 7, .build [.iv (.int .i64 0), .iv (.int .i64 0)] [(0, 1, .k (.one (.iv (.int .i64 1)))), (1, 1, .k (.one (.iv (.int .i64 1))))], [], none⟩,
    ⟨some 8, .build [.iv (.int .i64 0), .iv (.int .i64 0), .iv (.int .i64 0), .iv (.int .i64 0), .iv (.str ⟨#[]⟩), .iv (.int .i64 0), .iv (.str ⟨#[]⟩), .iv (.sl true 0 [])] [(0, 2, .t 7), (3, 1, .k (.one (.iv (.int .i64 1))))], [], none⟩,
    ⟨some 9, .mks false 8 [.t 4, .t 6, .t 8], [], none⟩,
    ⟨some 10, .build [.iv (.sl true 0 []), .iv (.arr 64 (List.replicate 64 (.int .i64 0)))] [(0, 1, .t 9)], [], none⟩,
    ⟨some 1, .new [.iv (.sl true 0 []), .iv (.arr 64 (List.replicate 64 (.int .i64 0)))], [], none⟩,
    ⟨none, .store 65 (.t 1) (.t 10), [], none⟩])
  (.seq (.region false [⟨some 11, .load true 65 (.t 1), [], none⟩,
    ⟨some 12, .call 55 [(false, .t 11), (false, .k (.one (.iv (.int .i64 1))))], [], none⟩,
    ⟨some 2, .new [.iv (.sl true 0 []), .iv (.arr 64 (List.replicate 64 (.int .i64 0)))], [], none⟩,
    ⟨none, .store 65 (.t 2) (.t 12), [], none⟩])
  (.seq (.region false [⟨some 13, .fad 0 (.t 2), [], none⟩,
    ⟨some 14, .load false 1 (.t 13), [], none⟩,
    ⟨some 15, .blt .len [.t 14], [], none⟩,
    ⟨some 16, .bin .eql (.t 15) (.k (.one (.iv (.int .i64 2)))), [], none⟩,
    ⟨some 17, .mov none (.t 16), [], none⟩,
    ⟨some 18, .fad 0 (.t 2), [], some (17, true)⟩,
    ⟨some 19, .load false 1 (.t 18), [], some (17, true)⟩,
    ⟨some 20, .ixS 8 (.t 19) (.k (.one (.iv (.int .i64 0)))), [], some (17, true)⟩,
    ⟨some 21, .fad 3 (.t 20), [], some (17, true)⟩,
    ⟨some 22, .load false 1 (.t 21), [], some (17, true)⟩,
    ⟨some 23, .bin .eql (.t 22) (.k (.one (.iv (.int .i64 2)))), [], some (17, true)⟩,
    ⟨some 24, .pick (.t 17) (.t 23) (.k (.one (.iv (.bool false)))), [], none⟩,
    ⟨some 25, .mov none (.t 24), [], none⟩,
    ⟨some 26, .fad 1 (.t 2), [], some (25, true)⟩,
    ⟨some 27, .ixA 64 1 (.t 26) (.k (.one (.iv (.int .i64 0)))), [], some (25, true)⟩,
    ⟨some 28, .load false 1 (.t 27), [], some (25, true)⟩,
    ⟨some 29, .bin .eql (.t 28) (.k (.one (.iv (.int .i64 1)))), [], some (25, true)⟩,
    ⟨some 30, .pick (.t 25) (.t 29) (.k (.one (.iv (.bool false)))), [], none⟩,
    ⟨some 31, .mov none (.t 30), [], none⟩,
    ⟨some 32, .load true 65 (.t 2), [], some (31, true)⟩,
    ⟨some 33, .call 57 [(false, .t 32)], [], some (31, true)⟩,
    ⟨some 34, .bin .eql (.t 33) (.k (.one (.iv (.int .i64 1)))), [], some (31, true)⟩,
    ⟨some 35, .pick (.t 31) (.t 34) (.k (.one (.iv (.bool false)))), [], none⟩,
    ⟨some 0, .mov none (.t 35), [], none⟩])
  (.ret))))
def v54 : VFn := ⟨0, 36, [.t 0], b54⟩

theorem c54 : chkFn Try.prog 54 v54 = true := by kernel_rfl

/- scholia/past.Trim -/
def l55_0 : VCode := .seq (.region false [⟨some 15, .bin .lss (.t 14) (.t 13), [], none⟩])
  (.seq (.cond (.t 15) (.skip) (.exit 0))
  (.seq (.block 1 (.seq (.region false [⟨some 16, .ixS 8 (.t 12) (.t 14), [], none⟩,
    ⟨some 17, .load true 8 (.t 16), [], none⟩,
    ⟨some 7, .new [.iv (.int .i64 0), .iv (.int .i64 0), .iv (.int .i64 0), .iv (.int .i64 0), .iv (.str ⟨#[]⟩), .iv (.int .i64 0), .iv (.str ⟨#[]⟩), .iv (.sl true 0 [])], [], none⟩,
    ⟨none, .store 8 (.t 7) (.t 17), [], none⟩])
  (.seq (.region false [⟨some 18, .fad 3 (.t 7), [], none⟩,
    ⟨some 19, .load false 1 (.t 18), [], none⟩,
    ⟨some 20, .bin .neq (.t 19) (.k (.one (.iv (.int .i64 2)))), [], none⟩])
  (.cond (.t 20) (.region false [⟨some 21, .mov none (.t 5), [], none⟩,
    ⟨some 22, .bin .add (.t 21) (.k (.one (.iv (.int .i64 1)))), [], none⟩,
    ⟨some 5, .mov none (.t 22), [], none⟩]) (.skip)))))
  (.region false [⟨some 23, .bin .add (.t 14) (.k (.one (.iv (.int .i64 1)))), [], none⟩,
    ⟨some 14, .mov none (.t 23), [], none⟩])))
def l55_1 : VCode := .seq (.region false [⟨some 31, .bin .lss (.t 30) (.t 29), [], none⟩])
  (.seq (.cond (.t 31) (.skip) (.exit 2))
  (.seq (.block 3 (.seq (.region false [⟨some 32, .ixS 8 (.t 28) (.t 30), [], none⟩,
    ⟨some 33, .load true 8 (.t 32), [], none⟩,
    ⟨some 10, .new [.iv (.int .i64 0), .iv (.int .i64 0), .iv (.int .i64 0), .iv (.int .i64 0), .iv (.str ⟨#[]⟩), .iv (.int .i64 0), .iv (.str ⟨#[]⟩), .iv (.sl true 0 [])], [], none⟩,
    ⟨none, .store 8 (.t 10) (.t 33), [], none⟩])
  (.seq (.seq (.region false [⟨some 34, .fad 3 (.t 10), [], none⟩,
    ⟨some 35, .load false 1 (.t 34), [], none⟩,
    ⟨some 36, .bin .neq (.t 35) (.k (.one (.iv (.int .i64 2)))), [], none⟩,
    ⟨some 37, .mov none (.t 36), [], none⟩,
    ⟨some 38, .mov none (.t 5), [], some (37, true)⟩,
    ⟨some 39, .mov none (.t 1), [], some (37, true)⟩,
    ⟨some 40, .blt .max [.t 39, .k (.one (.iv (.int .i64 0)))], [], some (37, true)⟩,
    ⟨some 41, .bin .gtr (.t 38) (.t 40), [], some (37, true)⟩,
    ⟨some 42, .pick (.t 37) (.t 41) (.k (.one (.iv (.bool false)))), [], none⟩])
  (.cond (.t 42) (.seq (.region false [⟨some 43, .fad 1 (.t 8), [], none⟩,
    ⟨some 44, .load true 64 (.t 43), [], none⟩,
    ⟨some 45, .fad 0 (.t 10), [], none⟩,
    ⟨some 46, .load true 2 (.t 45), [], none⟩,
    ⟨some 47, .call 23 [(false, .t 44), (false, .t 46)], [], none⟩,
    ⟨some 48, .fad 1 (.t 8), [], none⟩,
    ⟨none, .store 64 (.t 48) (.t 47), [], none⟩])
  (.seq (.region false [⟨some 49, .mov none (.t 5), [], none⟩,
    ⟨some 50, .bin .sub (.t 49) (.k (.one (.iv (.int .i64 1)))), [], none⟩,
    ⟨some 5, .mov none (.t 50), [], none⟩])
  (.exit 3))) (.skip)))
  (.region true [⟨some 51, .fad 0 (.t 8), [], none⟩,
    ⟨some 52, .load false 1 (.t 51), [0], none⟩,
    ⟨some 53, .load true 8 (.t 10), [], none⟩,
    ⟨some 54, .call 97 [(false, .t 53)], [2], none⟩,
    ⟨some 55, .mks false 8 [.t 54], [3], none⟩,
    ⟨some 56, .blt (.append 8 96) [.t 52, .t 55], [4, 1], none⟩,
    ⟨some 57, .fad 0 (.t 8), [5], none⟩,
    ⟨none, .store 1 (.t 57) (.t 56), [6], none⟩]))))
  (.region false [⟨some 58, .bin .add (.t 30) (.k (.one (.iv (.int .i64 1)))), [], none⟩,
    ⟨some 30, .mov none (.t 58), [], none⟩])))
def b55 : VCode := .seq (.region false [⟨some 2, .box (.t 0), [], none⟩,
    ⟨some 4, .new [.iv (.sl true 0 []), .iv (.arr 64 (List.replicate 64 (.int .i64 0)))], [], none⟩])
  (.seq (.region false [⟨some 5, .mov none (.k (.one (.iv (.int .i64 0)))), [], none⟩])
  (.seq (.seq (.region false [⟨some 11, .fad 0 (.t 2), [], none⟩,
    ⟨some 12, .load false 1 (.t 11), [], none⟩,
    ⟨some 13, .blt .len [.t 12], [], none⟩,
    ⟨some 14, .mov none (.k (.one (.iv (.int .i64 0)))), [], none⟩])
  (.block 0 (.loop false [1, 2, 4, 5, 12, 13, 14] l55_0)))
  (.seq (.region false [⟨some 24, .fad 1 (.t 2), [], none⟩,
    ⟨some 25, .load true 64 (.t 24), [], none⟩,
    ⟨some 26, .build [.fresh 8, .iv (.arr 64 (List.replicate 64 (.int .i64 0)))] [(1, 64, .t 25)], [], none⟩,
    ⟨some 8, .new [.iv (.sl true 0 []), .iv (.arr 64 (List.replicate 64 (.int .i64 0)))], [], none⟩,
    ⟨none, .store 65 (.t 8) (.t 26), [], none⟩])
  (.seq (.seq (.region false [⟨some 27, .fad 0 (.t 2), [], none⟩,
    ⟨some 28, .load false 1 (.t 27), [], none⟩,
    ⟨some 29, .blt .len [.t 28], [], none⟩,
    ⟨some 30, .mov none (.k (.one (.iv (.int .i64 0)))), [], none⟩])
  (.block 2 (.loop false [1, 4, 5, 8, 28, 29, 30] l55_1)))
  (.seq (.region false [⟨some 59, .load true 65 (.t 8), [], none⟩,
    ⟨none, .store 65 (.t 4) (.t 59), [], none⟩])
  (.ret))))))
def v55 : VFn := ⟨2, 60, [.c 4 true 65], b55⟩

theorem c55 : chkFn Try.prog 55 v55 = true := by kernel_rfl

/- scholia/past.Collect -/
def l56_0 : VCode := .seq (.region false [⟨some 15, .bin .lss (.t 14) (.t 13), [], none⟩])
  (.seq (.cond (.t 15) (.skip) (.exit 0))
  (.seq (.block 1 (.seq (.region false [⟨some 16, .ixS 8 (.t 12) (.t 14), [], none⟩,
    ⟨some 17, .load true 8 (.t 16), [], none⟩,
    ⟨some 7, .new [.iv (.int .i64 0), .iv (.int .i64 0), .iv (.int .i64 0), .iv (.int .i64 0), .iv (.str ⟨#[]⟩), .iv (.int .i64 0), .iv (.str ⟨#[]⟩), .iv (.sl true 0 [])], [], none⟩,
    ⟨none, .store 8 (.t 7) (.t 17), [], none⟩])
  (.seq (.seq (.region false [⟨some 18, .load true 64 (.t 3), [], none⟩,
    ⟨some 19, .fad 0 (.t 7), [], none⟩,
    ⟨some 20, .load true 2 (.t 19), [], none⟩,
    ⟨some 21, .call 21 [(false, .t 18), (false, .t 20)], [], none⟩])
  (.cond (.t 21) (.seq (.region false [⟨some 22, .fad 1 (.t 5), [], none⟩,
    ⟨some 23, .load true 64 (.t 22), [], none⟩,
    ⟨some 24, .fad 0 (.t 7), [], none⟩,
    ⟨some 25, .load true 2 (.t 24), [], none⟩,
    ⟨some 26, .call 23 [(false, .t 23), (false, .t 25)], [], none⟩,
    ⟨some 27, .fad 1 (.t 5), [], none⟩,
    ⟨none, .store 64 (.t 27) (.t 26), [], none⟩])
  (.exit 1)) (.skip)))
  (.region true [⟨some 28, .fad 0 (.t 5), [], none⟩,
    ⟨some 29, .load false 1 (.t 28), [0], none⟩,
    ⟨some 30, .load true 8 (.t 7), [], none⟩,
    ⟨some 31, .call 97 [(false, .t 30)], [2], none⟩,
    ⟨some 32, .mks false 8 [.t 31], [3], none⟩,
    ⟨some 33, .blt (.append 8 96) [.t 29, .t 32], [4, 1], none⟩,
    ⟨some 34, .fad 0 (.t 5), [5], none⟩,
    ⟨none, .store 1 (.t 34) (.t 33), [6], none⟩]))))
  (.region false [⟨some 35, .bin .add (.t 14) (.k (.one (.iv (.int .i64 1)))), [], none⟩,
    ⟨some 14, .mov none (.t 35), [], none⟩])))
def b56 : VCode := .seq (.region false [⟨some 2, .box (.t 0), [], none⟩,
    ⟨some 3, .box (.t 1), [], none⟩,
    ⟨some 4, .new [.iv (.sl true 0 []), .iv (.arr 64 (List.replicate 64 (.int .i64 0)))], [], none⟩])
  (.seq (.region false [⟨some 8, .fad 1 (.t 2), [], none⟩,
    ⟨some 9, .load true 64 (.t 8), [], none⟩,
    ⟨some 10, .build [.fresh 8, .iv (.arr 64 (List.replicate 64 (.int .i64 0)))] [(1, 64, .t 9)], [], none⟩,
    ⟨some 5, .new [.iv (.sl true 0 []), .iv (.arr 64 (List.replicate 64 (.int .i64 0)))], [], none⟩,
    ⟨none, .store 65 (.t 5) (.t 10), [], none⟩])
  (.seq (.seq (.region false [⟨some 11, .fad 0 (.t 2), [], none⟩,
    ⟨some 12, .load false 1 (.t 11), [], none⟩,
    ⟨some 13, .blt .len [.t 12], [], none⟩,
    ⟨some 14, .mov none (.k (.one (.iv (.int .i64 0)))), [], none⟩])
  (.block 0 (.loop false [3, 4, 5, 12, 13, 14] l56_0)))
  (.seq (.region false [⟨some 36, .load true 65 (.t 5), [], none⟩,
    ⟨none, .store 65 (.t 4) (.t 36), [], none⟩])
  (.ret))))
def v56 : VFn := ⟨2, 37, [.c 4 true 65], b56⟩

theorem c56 : chkFn Try.prog 56 v56 = true := by kernel_rfl

/- scholia/past.Drops -/
def l57_0 : VCode := .seq (.region false [⟨some 10, .bin .lss (.t 9) (.t 8), [], none⟩])
  (.seq (.cond (.t 10) (.skip) (.exit 0))
  (.seq (.block 1 (.seq (.region false [⟨some 11, .ixS 8 (.t 7) (.t 9), [], none⟩,
    ⟨some 12, .load true 8 (.t 11), [], none⟩,
    ⟨some 5, .new [.iv (.int .i64 0), .iv (.int .i64 0), .iv (.int .i64 0), .iv (.int .i64 0), .iv (.str ⟨#[]⟩), .iv (.int .i64 0), .iv (.str ⟨#[]⟩), .iv (.sl true 0 [])], [], none⟩,
    ⟨none, .store 8 (.t 5) (.t 12), [], none⟩])
  (.seq (.region false [⟨some 13, .fad 3 (.t 5), [], none⟩,
    ⟨some 14, .load false 1 (.t 13), [], none⟩,
    ⟨some 15, .bin .eql (.t 14) (.k (.one (.iv (.int .i64 2)))), [], none⟩])
  (.cond (.t 15) (.region false [⟨some 16, .mov none (.t 3), [], none⟩,
    ⟨some 17, .bin .add (.t 16) (.k (.one (.iv (.int .i64 1)))), [], none⟩,
    ⟨some 3, .mov none (.t 17), [], none⟩]) (.skip)))))
  (.region false [⟨some 18, .bin .add (.t 9) (.k (.one (.iv (.int .i64 1)))), [], none⟩,
    ⟨some 9, .mov none (.t 18), [], none⟩])))
def b57 : VCode := .seq (.region false [⟨some 1, .box (.t 0), [], none⟩,
    ⟨some 2, .mov none (.k (.one (.iv (.int .i64 0)))), [], none⟩])
  (.seq (.region false [⟨some 3, .mov none (.k (.one (.iv (.int .i64 0)))), [], none⟩])
  (.seq (.seq (.region false [⟨some 6, .fad 0 (.t 1), [], none⟩,
    ⟨some 7, .load false 1 (.t 6), [], none⟩,
    ⟨some 8, .blt .len [.t 7], [], none⟩,
    ⟨some 9, .mov none (.k (.one (.iv (.int .i64 0)))), [], none⟩])
  (.block 0 (.loop false [3, 7, 8, 9] l57_0)))
  (.seq (.region false [⟨some 19, .mov none (.t 3), [], none⟩,
    ⟨some 2, .mov none (.t 19), [], none⟩])
  (.ret))))
def v57 : VFn := ⟨1, 20, [.t 2], b57⟩

theorem c57 : chkFn Try.prog 57 v57 = true := by kernel_rfl

/- scholia/scholiaref13.Same -/
def b58 : VCode := .seq (.region false [⟨some 2, .box (.t 0), [], none⟩,
    ⟨some 3, .box (.t 1), [], none⟩,
    ⟨some 4, .mov none (.k (.one (.iv (.bool false)))), [], none⟩])
  (.seq (.region false [⟨some 5, .fad 1 (.t 2), [], none⟩,
    ⟨some 6, .load true 64 (.t 5), [], none⟩,
    ⟨some 7, .fad 1 (.t 3), [], none⟩,
    ⟨some 8, .load true 64 (.t 7), [], none⟩,
    ⟨some 9, .eqa .eql (List.replicate 64 .int) (.t 6) (.t 8), [], none⟩,
    ⟨some 10, .mov none (.t 9), [], none⟩,
    ⟨some 11, .fad 0 (.t 2), [], some (10, true)⟩,
    ⟨some 12, .load false 1 (.t 11), [], some (10, true)⟩,
    ⟨some 13, .fad 0 (.t 3), [], some (10, true)⟩,
    ⟨some 14, .load false 1 (.t 13), [], some (10, true)⟩,
    ⟨some 15, .call 65 [(false, .t 12), (false, .t 14)], [], some (10, true)⟩,
    ⟨some 16, .pick (.t 10) (.t 15) (.k (.one (.iv (.bool false)))), [], none⟩,
    ⟨some 4, .mov none (.t 16), [], none⟩])
  (.ret))
def v58 : VFn := ⟨2, 17, [.t 4], b58⟩

theorem c58 : chkFn Try.prog 58 v58 = true := by kernel_rfl

/- scholia/past.Add -/
def b59 : VCode := .seq (.region false [⟨some 2, .box (.t 0), [], none⟩,
    ⟨some 3, .box (.t 1), [], none⟩,
    ⟨some 4, .new [.iv (.sl true 0 []), .iv (.arr 64 (List.replicate 64 (.int .i64 0)))], [], none⟩])
  (.seq (.region true [⟨some 6, .fad 0 (.t 2), [], none⟩,
    ⟨some 7, .load false 1 (.t 6), [0], none⟩,
    ⟨some 8, .call 98 [(false, .t 7)], [1], none⟩,
    ⟨some 9, .fad 1 (.t 2), [], none⟩,
    ⟨some 10, .load true 64 (.t 9), [3], none⟩,
    ⟨some 11, .build [.fresh 8, .iv (.arr 64 (List.replicate 64 (.int .i64 0)))] [(0, 1, .t 8), (1, 64, .t 10)], [4, 2], none⟩,
    ⟨some 5, .new [.iv (.sl true 0 []), .iv (.arr 64 (List.replicate 64 (.int .i64 0)))], [], none⟩,
    ⟨none, .store 65 (.t 5) (.t 11), [6, 5], none⟩])
  (.seq (.seq (.region false [⟨some 12, .fad 0 (.t 5), [], none⟩,
    ⟨some 13, .load false 1 (.t 12), [], none⟩,
    ⟨some 14, .mkf 100 [.t 3], [], none⟩,
    ⟨some 15, .call 99 [(false, .t 13), (false, .t 14)], [], none⟩,
    ⟨some 16, .un .not (.t 15), [], none⟩])
  (.cond (.t 16) (.region true [⟨some 17, .fad 0 (.t 5), [], none⟩,
    ⟨some 18, .load false 1 (.t 17), [0], none⟩,
    ⟨some 19, .load true 8 (.t 3), [], none⟩,
    ⟨some 20, .call 97 [(false, .t 19)], [2], none⟩,
    ⟨some 21, .mks false 8 [.t 20], [3], none⟩,
    ⟨some 22, .blt (.append 8 96) [.t 18, .t 21], [4, 1], none⟩,
    ⟨some 23, .fad 0 (.t 5), [5], none⟩,
    ⟨none, .store 1 (.t 23) (.t 22), [6], none⟩]) (.skip)))
  (.seq (.region false [⟨some 24, .load true 65 (.t 5), [], none⟩,
    ⟨none, .store 65 (.t 4) (.t 24), [], none⟩])
  (.ret))))
def v59 : VFn := ⟨2, 25, [.c 4 true 65], b59⟩

theorem c59 : chkFn Try.prog 59 v59 = true := by kernel_rfl

/- scholia/scholiaref13.Add -/
def b60 : VCode := .seq (.region false [⟨some 2, .box (.t 0), [], none⟩,
    ⟨some 3, .box (.t 1), [], none⟩,
    ⟨some 4, .new [.iv (.sl true 0 []), .iv (.arr 64 (List.replicate 64 (.int .i64 0)))], [], none⟩])
  (.seq (.region true [⟨some 5, .fad 0 (.t 2), [], none⟩,
    ⟨some 6, .load false 1 (.t 5), [0], none⟩,
    ⟨some 7, .load true 8 (.t 3), [], none⟩,
    ⟨some 8, .call 101 [(false, .t 6), (false, .t 7)], [2, 1], none⟩,
    ⟨some 9, .fad 1 (.t 2), [], none⟩,
    ⟨some 10, .load true 64 (.t 9), [4], none⟩,
    ⟨some 11, .build [.iv (.sl true 0 []), .iv (.arr 64 (List.replicate 64 (.int .i64 0)))] [(0, 1, .t 8), (1, 64, .t 10)], [5, 3], none⟩,
    ⟨none, .store 65 (.t 4) (.t 11), [6], none⟩])
  (.ret))
def v60 : VFn := ⟨2, 12, [.c 4 true 65], b60⟩

theorem c60 : chkFn Try.prog 60 v60 = true := by kernel_rfl

/- scholia/scholiaref13.Trim -/
def l61_0 : VCode := .seq (.region false [⟨some 15, .bin .lss (.t 14) (.t 13), [], none⟩])
  (.seq (.cond (.t 15) (.skip) (.exit 0))
  (.seq (.block 1 (.seq (.region false [⟨some 16, .mov none (.t 14), [], none⟩,
    ⟨some 17, .ixS 8 (.t 12) (.t 14), [], none⟩,
    ⟨some 18, .load true 8 (.t 17), [], none⟩,
    ⟨some 7, .new [.iv (.int .i64 0), .iv (.int .i64 0), .iv (.int .i64 0), .iv (.int .i64 0), .iv (.str ⟨#[]⟩), .iv (.int .i64 0), .iv (.str ⟨#[]⟩), .iv (.sl true 0 [])], [], none⟩,
    ⟨some 6, .mov none (.t 16), [], none⟩,
    ⟨none, .store 8 (.t 7) (.t 18), [], none⟩])
  (.seq (.region false [⟨some 19, .fad 3 (.t 7), [], none⟩,
    ⟨some 20, .load false 1 (.t 19), [], none⟩,
    ⟨some 21, .bin .neq (.t 20) (.k (.one (.iv (.int .i64 2)))), [], none⟩,
    ⟨some 22, .mov none (.t 21), [], none⟩,
    ⟨some 23, .fad 0 (.t 2), [], some (22, true)⟩,
    ⟨some 24, .load false 1 (.t 23), [], some (22, true)⟩,
    ⟨some 25, .mov none (.t 6), [], some (22, true)⟩,
    ⟨some 26, .slS 8 (.t 24) (some (.t 25)) none none, [], some (22, true)⟩,
    ⟨some 27, .call 102 [(false, .t 26)], [], some (22, true)⟩,
    ⟨some 28, .mov none (.t 1), [], some (22, true)⟩,
    ⟨some 29, .blt .max [.t 28, .k (.one (.iv (.int .i64 0)))], [], some (22, true)⟩,
    ⟨some 30, .bin .gtr (.t 27) (.t 29), [], some (22, true)⟩,
    ⟨some 31, .pick (.t 22) (.t 30) (.k (.one (.iv (.bool false)))), [], none⟩])
  (.cond (.t 31) (.region false [⟨some 32, .fad 1 (.t 5), [], none⟩,
    ⟨some 33, .load true 64 (.t 32), [], none⟩,
    ⟨some 34, .fad 0 (.t 7), [], none⟩,
    ⟨some 35, .load true 2 (.t 34), [], none⟩,
    ⟨some 36, .call 24 [(false, .t 33), (false, .t 35)], [], none⟩,
    ⟨some 37, .fad 1 (.t 5), [], none⟩,
    ⟨none, .store 64 (.t 37) (.t 36), [], none⟩]) (.region false [⟨some 38, .fad 0 (.t 5), [], none⟩,
    ⟨some 39, .load false 1 (.t 38), [], none⟩,
    ⟨some 40, .load true 8 (.t 7), [], none⟩,
    ⟨some 41, .mks false 8 [.t 40], [], none⟩,
    ⟨some 42, .blt (.append 8 96) [.t 39, .t 41], [], none⟩,
    ⟨some 43, .fad 0 (.t 5), [], none⟩,
    ⟨none, .store 1 (.t 43) (.t 42), [], none⟩])))))
  (.region false [⟨some 44, .bin .add (.t 14) (.k (.one (.iv (.int .i64 1)))), [], none⟩,
    ⟨some 14, .mov none (.t 44), [], none⟩])))
def b61 : VCode := .seq (.region false [⟨some 2, .box (.t 0), [], none⟩,
    ⟨some 4, .new [.iv (.sl true 0 []), .iv (.arr 64 (List.replicate 64 (.int .i64 0)))], [], none⟩])
  (.seq (.region false [⟨some 8, .fad 1 (.t 2), [], none⟩,
    ⟨some 9, .load true 64 (.t 8), [], none⟩,
    ⟨some 10, .build [.fresh 8, .iv (.arr 64 (List.replicate 64 (.int .i64 0)))] [(1, 64, .t 9)], [], none⟩,
    ⟨some 5, .new [.iv (.sl true 0 []), .iv (.arr 64 (List.replicate 64 (.int .i64 0)))], [], none⟩,
    ⟨none, .store 65 (.t 5) (.t 10), [], none⟩])
  (.seq (.seq (.region false [⟨some 11, .fad 0 (.t 2), [], none⟩,
    ⟨some 12, .load false 1 (.t 11), [], none⟩,
    ⟨some 13, .blt .len [.t 12], [], none⟩,
    ⟨some 14, .mov none (.k (.one (.iv (.int .i64 0)))), [], none⟩])
  (.block 0 (.loop false [1, 2, 4, 5, 12, 13, 14] l61_0)))
  (.seq (.region false [⟨some 45, .load true 65 (.t 5), [], none⟩,
    ⟨none, .store 65 (.t 4) (.t 45), [], none⟩])
  (.ret))))
def v61 : VFn := ⟨2, 46, [.c 4 true 65], b61⟩

theorem c61 : chkFn Try.prog 61 v61 = true := by kernel_rfl

/- scholia/scholiaref13.Collect -/
def l62_0 : VCode := .seq (.region false [⟨some 15, .bin .lss (.t 14) (.t 13), [], none⟩])
  (.seq (.cond (.t 15) (.skip) (.exit 0))
  (.seq (.block 1 (.seq (.region false [⟨some 16, .ixS 8 (.t 12) (.t 14), [], none⟩,
    ⟨some 17, .load true 8 (.t 16), [], none⟩,
    ⟨some 7, .new [.iv (.int .i64 0), .iv (.int .i64 0), .iv (.int .i64 0), .iv (.int .i64 0), .iv (.str ⟨#[]⟩), .iv (.int .i64 0), .iv (.str ⟨#[]⟩), .iv (.sl true 0 [])], [], none⟩,
    ⟨none, .store 8 (.t 7) (.t 17), [], none⟩])
  (.seq (.region false [⟨some 18, .load true 64 (.t 3), [], none⟩,
    ⟨some 19, .fad 0 (.t 7), [], none⟩,
    ⟨some 20, .load true 2 (.t 19), [], none⟩,
    ⟨some 21, .call 22 [(false, .t 18), (false, .t 20)], [], none⟩])
  (.cond (.t 21) (.region false [⟨some 22, .fad 1 (.t 5), [], none⟩,
    ⟨some 23, .load true 64 (.t 22), [], none⟩,
    ⟨some 24, .fad 0 (.t 7), [], none⟩,
    ⟨some 25, .load true 2 (.t 24), [], none⟩,
    ⟨some 26, .call 24 [(false, .t 23), (false, .t 25)], [], none⟩,
    ⟨some 27, .fad 1 (.t 5), [], none⟩,
    ⟨none, .store 64 (.t 27) (.t 26), [], none⟩]) (.region false [⟨some 28, .fad 0 (.t 5), [], none⟩,
    ⟨some 29, .load false 1 (.t 28), [], none⟩,
    ⟨some 30, .load true 8 (.t 7), [], none⟩,
    ⟨some 31, .mks false 8 [.t 30], [], none⟩,
    ⟨some 32, .blt (.append 8 96) [.t 29, .t 31], [], none⟩,
    ⟨some 33, .fad 0 (.t 5), [], none⟩,
    ⟨none, .store 1 (.t 33) (.t 32), [], none⟩])))))
  (.region false [⟨some 34, .bin .add (.t 14) (.k (.one (.iv (.int .i64 1)))), [], none⟩,
    ⟨some 14, .mov none (.t 34), [], none⟩])))
def b62 : VCode := .seq (.region false [⟨some 2, .box (.t 0), [], none⟩,
    ⟨some 3, .box (.t 1), [], none⟩,
    ⟨some 4, .new [.iv (.sl true 0 []), .iv (.arr 64 (List.replicate 64 (.int .i64 0)))], [], none⟩])
  (.seq (.region false [⟨some 8, .fad 1 (.t 2), [], none⟩,
    ⟨some 9, .load true 64 (.t 8), [], none⟩,
    ⟨some 10, .build [.fresh 8, .iv (.arr 64 (List.replicate 64 (.int .i64 0)))] [(1, 64, .t 9)], [], none⟩,
    ⟨some 5, .new [.iv (.sl true 0 []), .iv (.arr 64 (List.replicate 64 (.int .i64 0)))], [], none⟩,
    ⟨none, .store 65 (.t 5) (.t 10), [], none⟩])
  (.seq (.seq (.region false [⟨some 11, .fad 0 (.t 2), [], none⟩,
    ⟨some 12, .load false 1 (.t 11), [], none⟩,
    ⟨some 13, .blt .len [.t 12], [], none⟩,
    ⟨some 14, .mov none (.k (.one (.iv (.int .i64 0)))), [], none⟩])
  (.block 0 (.loop false [3, 4, 5, 12, 13, 14] l62_0)))
  (.seq (.region false [⟨some 35, .load true 65 (.t 5), [], none⟩,
    ⟨none, .store 65 (.t 4) (.t 35), [], none⟩])
  (.ret))))
def v62 : VFn := ⟨2, 36, [.c 4 true 65], b62⟩

theorem c62 : chkFn Try.prog 62 v62 = true := by kernel_rfl

/- scholia/past.Since -/
def l63_0 : VCode := .seq (.region false [⟨some 20, .bin .lss (.t 19) (.t 18), [], none⟩])
  (.seq (.cond (.t 20) (.skip) (.exit 0))
  (.seq (.block 1 (.seq (.region false [⟨some 21, .ixS 8 (.t 17) (.t 19), [], none⟩,
    ⟨some 22, .load true 8 (.t 21), [], none⟩,
    ⟨some 10, .new [.iv (.int .i64 0), .iv (.int .i64 0), .iv (.int .i64 0), .iv (.int .i64 0), .iv (.str ⟨#[]⟩), .iv (.int .i64 0), .iv (.str ⟨#[]⟩), .iv (.sl true 0 [])], [], none⟩,
    ⟨none, .store 8 (.t 10) (.t 22), [], none⟩])
  (.seq (.region false [⟨some 23, .load true 64 (.t 4), [], none⟩,
    ⟨some 24, .fad 0 (.t 10), [], none⟩,
    ⟨some 25, .load true 2 (.t 24), [], none⟩,
    ⟨some 26, .call 21 [(false, .t 23), (false, .t 25)], [], none⟩,
    ⟨some 27, .un .not (.t 26), [], none⟩,
    ⟨some 28, .mov none (.t 27), [], none⟩,
    ⟨some 29, .mov none (.t 8), [], some (28, true)⟩,
    ⟨some 30, .blt .len [.t 29], [], some (28, true)⟩,
    ⟨some 31, .mov none (.t 2), [], some (28, true)⟩,
    ⟨some 32, .blt .max [.t 31, .k (.one (.iv (.int .i64 0)))], [], some (28, true)⟩,
    ⟨some 33, .bin .lss (.t 30) (.t 32), [], some (28, true)⟩,
    ⟨some 34, .pick (.t 28) (.t 33) (.k (.one (.iv (.bool false)))), [], none⟩])
  (.cond (.t 34) (.region false [⟨some 35, .mov none (.t 8), [], none⟩,
    ⟨some 36, .load true 8 (.t 10), [], none⟩,
    ⟨some 37, .call 97 [(false, .t 36)], [], none⟩,
    ⟨some 38, .mks false 8 [.t 37], [], none⟩,
    ⟨some 39, .blt (.append 8 96) [.t 35, .t 38], [], none⟩,
    ⟨some 8, .mov none (.t 39), [], none⟩]) (.skip)))))
  (.region false [⟨some 40, .bin .add (.t 19) (.k (.one (.iv (.int .i64 1)))), [], none⟩,
    ⟨some 19, .mov none (.t 40), [], none⟩])))
def b63 : VCode := .seq (.region false [⟨some 3, .box (.t 0), [], none⟩,
    ⟨some 4, .box (.t 1), [], none⟩,
    ⟨some 6, .mov none (.k (.one (.iv (.sl true 0 [])))), [], none⟩,
    ⟨some 7, .mov none (.k (.one (.iv (.bool false)))), [], none⟩])
  (.seq (.seq (.region false [⟨some 11, .fad 1 (.t 3), [], none⟩,
    ⟨some 12, .load true 64 (.t 11), [], none⟩,
    ⟨some 13, .load true 64 (.t 4), [], none⟩,
    ⟨some 14, .call 28 [(false, .t 12), (false, .t 13)], [], none⟩,
    ⟨some 15, .un .not (.t 14), [], none⟩])
  (.cond (.t 15) (.seq (.region false [⟨some 6, .mov none (.k (.one (.iv (.sl true 0 [])))), [], none⟩,
    ⟨some 7, .mov none (.k (.one (.iv (.bool false)))), [], none⟩])
  (.ret)) (.skip)))
  (.seq (.region false [⟨some 8, .mov (some 8) (.k (.one (.iv (.sl true 0 [])))), [], none⟩])
  (.seq (.seq (.region false [⟨some 16, .fad 0 (.t 3), [], none⟩,
    ⟨some 17, .load false 1 (.t 16), [], none⟩,
    ⟨some 18, .blt .len [.t 17], [], none⟩,
    ⟨some 19, .mov none (.k (.one (.iv (.int .i64 0)))), [], none⟩])
  (.block 0 (.loop false [2, 4, 8, 17, 18, 19] l63_0)))
  (.seq (.region false [⟨some 41, .mov none (.t 8), [], none⟩,
    ⟨some 6, .mov none (.t 41), [], none⟩,
    ⟨some 7, .mov none (.k (.one (.iv (.bool true)))), [], none⟩])
  (.ret)))))
def v63 : VFn := ⟨3, 42, [.t 6, .t 7], b63⟩

theorem c63 : chkFn Try.prog 63 v63 = true := by kernel_rfl

/- scholia/scholiaref13.Since -/
def l64_0 : VCode := .seq (.region false [⟨some 20, .bin .lss (.t 19) (.t 18), [], none⟩])
  (.seq (.cond (.t 20) (.skip) (.exit 0))
  (.seq (.block 1 (.seq (.region false [⟨some 21, .ixS 8 (.t 17) (.t 19), [], none⟩,
    ⟨some 22, .load true 8 (.t 21), [], none⟩,
    ⟨some 10, .new [.iv (.int .i64 0), .iv (.int .i64 0), .iv (.int .i64 0), .iv (.int .i64 0), .iv (.str ⟨#[]⟩), .iv (.int .i64 0), .iv (.str ⟨#[]⟩), .iv (.sl true 0 [])], [], none⟩,
    ⟨none, .store 8 (.t 10) (.t 22), [], none⟩])
  (.seq (.region false [⟨some 23, .mov none (.t 8), [], none⟩,
    ⟨some 24, .blt .len [.t 23], [], none⟩,
    ⟨some 25, .mov none (.t 2), [], none⟩,
    ⟨some 26, .bin .lss (.t 24) (.t 25), [], none⟩,
    ⟨some 27, .mov none (.t 26), [], none⟩,
    ⟨some 28, .load true 64 (.t 4), [], some (27, true)⟩,
    ⟨some 29, .fad 0 (.t 10), [], some (27, true)⟩,
    ⟨some 30, .load true 2 (.t 29), [], some (27, true)⟩,
    ⟨some 31, .call 22 [(false, .t 28), (false, .t 30)], [], some (27, true)⟩,
    ⟨some 32, .un .not (.t 31), [], some (27, true)⟩,
    ⟨some 33, .pick (.t 27) (.t 32) (.k (.one (.iv (.bool false)))), [], none⟩])
  (.cond (.t 33) (.region false [⟨some 34, .mov none (.t 8), [], none⟩,
    ⟨some 35, .load true 8 (.t 10), [], none⟩,
    ⟨some 36, .mks false 8 [.t 35], [], none⟩,
    ⟨some 37, .blt (.append 8 96) [.t 34, .t 36], [], none⟩,
    ⟨some 8, .mov none (.t 37), [], none⟩]) (.skip)))))
  (.region false [⟨some 38, .bin .add (.t 19) (.k (.one (.iv (.int .i64 1)))), [], none⟩,
    ⟨some 19, .mov none (.t 38), [], none⟩])))
def b64 : VCode := .seq (.region false [⟨some 3, .box (.t 0), [], none⟩,
    ⟨some 4, .box (.t 1), [], none⟩,
    ⟨some 6, .mov none (.k (.one (.iv (.sl true 0 [])))), [], none⟩,
    ⟨some 7, .mov none (.k (.one (.iv (.bool false)))), [], none⟩])
  (.seq (.seq (.region false [⟨some 11, .fad 1 (.t 3), [], none⟩,
    ⟨some 12, .load true 64 (.t 11), [], none⟩,
    ⟨some 13, .load true 64 (.t 4), [], none⟩,
    ⟨some 14, .call 31 [(false, .t 12), (false, .t 13)], [], none⟩,
    ⟨some 15, .un .not (.t 14), [], none⟩])
  (.cond (.t 15) (.seq (.region false [⟨some 6, .mov none (.k (.one (.iv (.sl true 0 [])))), [], none⟩,
    ⟨some 7, .mov none (.k (.one (.iv (.bool false)))), [], none⟩])
  (.ret)) (.skip)))
  (.seq (.region false [⟨some 8, .mov (some 8) (.k (.one (.iv (.sl true 0 [])))), [], none⟩])
  (.seq (.seq (.region false [⟨some 16, .fad 0 (.t 3), [], none⟩,
    ⟨some 17, .load false 1 (.t 16), [], none⟩,
    ⟨some 18, .blt .len [.t 17], [], none⟩,
    ⟨some 19, .mov none (.k (.one (.iv (.int .i64 0)))), [], none⟩])
  (.block 0 (.loop false [2, 4, 8, 17, 18, 19] l64_0)))
  (.seq (.region false [⟨some 39, .mov none (.t 8), [], none⟩,
    ⟨some 6, .mov none (.t 39), [], none⟩,
    ⟨some 7, .mov none (.k (.one (.iv (.bool true)))), [], none⟩])
  (.ret)))))
def v64 : VFn := ⟨3, 40, [.t 6, .t 7], b64⟩

theorem c64 : chkFn Try.prog 64 v64 = true := by kernel_rfl

/- scholia/scholiaref13.SameEvents -/
def l65_1 : VCode := .seq (.region false [⟨some 79, .bin .lss (.t 78) (.t 77), [], none⟩])
  (.seq (.cond (.t 79) (.skip) (.exit 2))
  (.seq (.block 3 (.seq (.region false [⟨some 80, .mov none (.t 78), [], none⟩,
    ⟨some 81, .ixS 2 (.t 76) (.t 78), [], none⟩,
    ⟨some 82, .load true 2 (.t 81), [], none⟩,
    ⟨some 9, .new [.iv (.int .i64 0), .iv (.int .i64 0)], [], none⟩,
    ⟨some 8, .mov none (.t 80), [], none⟩,
    ⟨none, .store 2 (.t 9) (.t 82), [], none⟩])
  (.seq (.region true [⟨some 83, .fad 7 (.t 7), [], none⟩,
    ⟨some 84, .load false 1 (.t 83), [0], none⟩,
    ⟨some 85, .mov none (.t 8), [], none⟩,
    ⟨some 86, .ixS 2 (.t 84) (.t 85), [2, 1], none⟩,
    ⟨some 87, .load true 2 (.t 86), [3], none⟩,
    ⟨some 88, .load true 2 (.t 9), [], none⟩,
    ⟨some 89, .eqa .neq ([.int] ++ [.int]) (.t 87) (.t 88), [5, 4], none⟩])
  (.cond (.t 89) (.seq (.region false [⟨some 4, .mov none (.k (.one (.iv (.bool false)))), [], none⟩])
  (.ret)) (.skip)))))
  (.region false [⟨some 90, .bin .add (.t 78) (.k (.one (.iv (.int .i64 1)))), [], none⟩,
    ⟨some 78, .mov none (.t 90), [], none⟩])))
def l65_0 : VCode := .seq (.region false [⟨some 18, .bin .lss (.t 17) (.t 16), [], none⟩])
  (.seq (.cond (.t 18) (.skip) (.exit 0))
  (.seq (.block 1 (.seq (.region false [⟨some 19, .mov none (.t 17), [], none⟩,
    ⟨some 20, .ixS 8 (.t 15) (.t 17), [], none⟩,
    ⟨some 21, .load true 8 (.t 20), [], none⟩,
    ⟨some 6, .new [.iv (.int .i64 0), .iv (.int .i64 0), .iv (.int .i64 0), .iv (.int .i64 0), .iv (.str ⟨#[]⟩), .iv (.int .i64 0), .iv (.str ⟨#[]⟩), .iv (.sl true 0 [])], [], none⟩,
    ⟨some 5, .mov none (.t 19), [], none⟩,
    ⟨none, .store 8 (.t 6) (.t 21), [], none⟩])
  (.seq (.region false [⟨some 22, .mov none (.t 1), [], none⟩,
    ⟨some 23, .mov none (.t 5), [], none⟩,
    ⟨some 24, .ixS 8 (.t 22) (.t 23), [], none⟩,
    ⟨some 25, .load true 8 (.t 24), [], none⟩,
    ⟨some 7, .new [.iv (.int .i64 0), .iv (.int .i64 0), .iv (.int .i64 0), .iv (.int .i64 0), .iv (.str ⟨#[]⟩), .iv (.int .i64 0), .iv (.str ⟨#[]⟩), .iv (.sl true 0 [])], [], none⟩,
    ⟨none, .store 8 (.t 7) (.t 25), [], none⟩])
  (.seq (.seq (.region false [⟨some 26, .fad 0 (.t 6), [], none⟩,
    ⟨some 27, .load true 2 (.t 26), [], none⟩,
    ⟨some 28, .fad 0 (.t 7), [], none⟩,
    ⟨some 29, .load true 2 (.t 28), [], none⟩,
    ⟨some 30, .eqa .neq ([.int] ++ [.int]) (.t 27) (.t 29), [], none⟩,
    ⟨some 31, .mov none (.t 30), [], none⟩,
    ⟨some 32, .fad 2 (.t 6), [], some (31, false)⟩,
    ⟨some 33, .load false 1 (.t 32), [], some (31, false)⟩,
    ⟨some 34, .fad 2 (.t 7), [], some (31, false)⟩,
    ⟨some 35, .load false 1 (.t 34), [], some (31, false)⟩,
    ⟨some 36, .bin .neq (.t 33) (.t 35), [], some (31, false)⟩,
    ⟨some 37, .pick (.t 31) (.k (.one (.iv (.bool true)))) (.t 36), [], none⟩,
    ⟨some 38, .mov none (.t 37), [], none⟩,
    ⟨some 39, .fad 3 (.t 6), [], some (38, false)⟩,
    ⟨some 40, .load false 1 (.t 39), [], some (38, false)⟩,
    ⟨some 41, .fad 3 (.t 7), [], some (38, false)⟩,
    ⟨some 42, .load false 1 (.t 41), [], some (38, false)⟩,
    ⟨some 43, .bin .neq (.t 40) (.t 42), [], some (38, false)⟩,
    ⟨some 44, .pick (.t 38) (.k (.one (.iv (.bool true)))) (.t 43), [], none⟩,
    ⟨some 45, .mov none (.t 44), [], none⟩,
    ⟨some 46, .fad 4 (.t 6), [], some (45, false)⟩,
    ⟨some 47, .load false 1 (.t 46), [], some (45, false)⟩,
    ⟨some 48, .fad 4 (.t 7), [], some (45, false)⟩,
    ⟨some 49, .load false 1 (.t 48), [], some (45, false)⟩,
    ⟨some 50, .bin .neq (.t 47) (.t 49), [], some (45, false)⟩,
    ⟨some 51, .pick (.t 45) (.k (.one (.iv (.bool true)))) (.t 50), [], none⟩,
    ⟨some 52, .mov none (.t 51), [], none⟩,
    ⟨some 53, .fad 5 (.t 6), [], some (52, false)⟩,
    ⟨some 54, .load false 1 (.t 53), [], some (52, false)⟩,
    ⟨some 55, .fad 5 (.t 7), [], some (52, false)⟩,
    ⟨some 56, .load false 1 (.t 55), [], some (52, false)⟩,
    ⟨some 57, .bin .neq (.t 54) (.t 56), [], some (52, false)⟩,
    ⟨some 58, .pick (.t 52) (.k (.one (.iv (.bool true)))) (.t 57), [], none⟩,
    ⟨some 59, .mov none (.t 58), [], none⟩,
    ⟨some 60, .fad 6 (.t 6), [], some (59, false)⟩,
    ⟨some 61, .load false 1 (.t 60), [], some (59, false)⟩,
    ⟨some 62, .fad 6 (.t 7), [], some (59, false)⟩,
    ⟨some 63, .load false 1 (.t 62), [], some (59, false)⟩,
    ⟨some 64, .bin .neq (.t 61) (.t 63), [], some (59, false)⟩,
    ⟨some 65, .pick (.t 59) (.k (.one (.iv (.bool true)))) (.t 64), [], none⟩,
    ⟨some 66, .mov none (.t 65), [], none⟩,
    ⟨some 67, .fad 7 (.t 6), [], some (66, false)⟩,
    ⟨some 68, .load false 1 (.t 67), [], some (66, false)⟩,
    ⟨some 69, .blt .len [.t 68], [], some (66, false)⟩,
    ⟨some 70, .fad 7 (.t 7), [], some (66, false)⟩,
    ⟨some 71, .load false 1 (.t 70), [], some (66, false)⟩,
    ⟨some 72, .blt .len [.t 71], [], some (66, false)⟩,
    ⟨some 73, .bin .neq (.t 69) (.t 72), [], some (66, false)⟩,
    ⟨some 74, .pick (.t 66) (.k (.one (.iv (.bool true)))) (.t 73), [], none⟩])
  (.cond (.t 74) (.seq (.region false [⟨some 4, .mov none (.k (.one (.iv (.bool false)))), [], none⟩])
  (.ret)) (.skip)))
  (.seq (.region false [⟨some 75, .fad 7 (.t 6), [], none⟩,
    ⟨some 76, .load false 1 (.t 75), [], none⟩,
    ⟨some 77, .blt .len [.t 76], [], none⟩,
    ⟨some 78, .mov none (.k (.one (.iv (.int .i64 0)))), [], none⟩])
  (.block 2 (.loop false [1, 7, 15, 16, 17, 76, 77, 78] l65_1)))))))
  (.region false [⟨some 91, .bin .add (.t 17) (.k (.one (.iv (.int .i64 1)))), [], none⟩,
    ⟨some 17, .mov none (.t 91), [], none⟩])))
def b65 : VCode := .seq (.region false [⟨some 4, .mov none (.k (.one (.iv (.bool false)))), [], none⟩])
  (.seq (.seq (.region false [⟨some 10, .mov none (.t 0), [], none⟩,
    ⟨some 11, .blt .len [.t 10], [], none⟩,
    ⟨some 12, .mov none (.t 1), [], none⟩,
    ⟨some 13, .blt .len [.t 12], [], none⟩,
    ⟨some 14, .bin .neq (.t 11) (.t 13), [], none⟩])
  (.cond (.t 14) (.seq (.region false [⟨some 4, .mov none (.k (.one (.iv (.bool false)))), [], none⟩])
  (.ret)) (.skip)))
  (.seq (.seq (.region false [⟨some 15, .mov none (.t 0), [], none⟩,
    ⟨some 16, .blt .len [.t 15], [], none⟩,
    ⟨some 17, .mov none (.k (.one (.iv (.int .i64 0)))), [], none⟩])
  (.block 0 (.loop false [1, 15, 16, 17] l65_0)))
  (.seq (.region false [⟨some 4, .mov none (.k (.one (.iv (.bool true)))), [], none⟩])
  (.ret))))
def v65 : VFn := ⟨2, 92, [.t 4], b65⟩

theorem c65 : chkFn Try.prog 65 v65 = true := by kernel_rfl

/- scholia/past.Join -/
def l66_0 : VCode := .seq (.region false [⟨some 21, .bin .lss (.t 20) (.t 19), [], none⟩])
  (.seq (.cond (.t 21) (.skip) (.exit 0))
  (.seq (.block 1 (.seq (.region false [⟨some 22, .ixS 8 (.t 18) (.t 20), [], none⟩,
    ⟨some 23, .load true 8 (.t 22), [], none⟩,
    ⟨some 7, .new [.iv (.int .i64 0), .iv (.int .i64 0), .iv (.int .i64 0), .iv (.int .i64 0), .iv (.str ⟨#[]⟩), .iv (.int .i64 0), .iv (.str ⟨#[]⟩), .iv (.sl true 0 [])], [], none⟩,
    ⟨none, .store 8 (.t 7) (.t 23), [], none⟩])
  (.region false [⟨some 24, .load true 65 (.t 5), [], none⟩,
    ⟨some 25, .load true 8 (.t 7), [], none⟩,
    ⟨some 26, .call 59 [(false, .t 24), (false, .t 25)], [], none⟩,
    ⟨none, .store 65 (.t 5) (.t 26), [], none⟩])))
  (.region false [⟨some 27, .bin .add (.t 20) (.k (.one (.iv (.int .i64 1)))), [], none⟩,
    ⟨some 20, .mov none (.t 27), [], none⟩])))
def b66 : VCode := .seq (.region false [⟨some 2, .box (.t 0), [], none⟩,
    ⟨some 3, .box (.t 1), [], none⟩,
    ⟨some 4, .new [.iv (.sl true 0 []), .iv (.arr 64 (List.replicate 64 (.int .i64 0)))], [], none⟩])
  (.seq (.region true [⟨some 8, .fad 0 (.t 2), [], none⟩,
    ⟨some 9, .load false 1 (.t 8), [0], none⟩,
    ⟨some 10, .call 98 [(false, .t 9)], [1], none⟩,
    ⟨some 11, .fad 1 (.t 2), [], none⟩,
    ⟨some 12, .load true 64 (.t 11), [3], none⟩,
    ⟨some 13, .fad 1 (.t 3), [], none⟩,
    ⟨some 14, .load true 64 (.t 13), [5], none⟩,
    ⟨some 15, .call 26 [(false, .t 12), (false, .t 14)], [6, 4, 2], none⟩,
    ⟨some 16, .build [.iv (.sl true 0 []), .iv (.arr 64 (List.replicate 64 (.int .i64 0)))] [(0, 1, .t 10), (1, 64, .t 15)], [7], none⟩,
    ⟨some 5, .new [.iv (.sl true 0 []), .iv (.arr 64 (List.replicate 64 (.int .i64 0)))], [], none⟩,
    ⟨none, .store 65 (.t 5) (.t 16), [9, 8], none⟩])
  (.seq (.seq (.region false [⟨some 17, .fad 0 (.t 3), [], none⟩,
    ⟨some 18, .load false 1 (.t 17), [], none⟩,
    ⟨some 19, .blt .len [.t 18], [], none⟩,
    ⟨some 20, .mov none (.k (.one (.iv (.int .i64 0)))), [], none⟩])
  (.block 0 (.loop false [4, 5, 18, 19, 20] l66_0)))
  (.seq (.region false [⟨some 28, .load true 65 (.t 5), [], none⟩,
    ⟨none, .store 65 (.t 4) (.t 28), [], none⟩])
  (.ret))))
def v66 : VFn := ⟨2, 29, [.c 4 true 65], b66⟩

theorem c66 : chkFn Try.prog 66 v66 = true := by kernel_rfl

/- scholia/scholiaref13.Join -/
def l67_0 : VCode := .seq (.region false [⟨some 20, .bin .lss (.t 19) (.t 18), [], none⟩])
  (.seq (.cond (.t 20) (.skip) (.exit 0))
  (.seq (.block 1 (.seq (.region false [⟨some 21, .ixS 8 (.t 17) (.t 19), [], none⟩,
    ⟨some 22, .load true 8 (.t 21), [], none⟩,
    ⟨some 7, .new [.iv (.int .i64 0), .iv (.int .i64 0), .iv (.int .i64 0), .iv (.int .i64 0), .iv (.str ⟨#[]⟩), .iv (.int .i64 0), .iv (.str ⟨#[]⟩), .iv (.sl true 0 [])], [], none⟩,
    ⟨none, .store 8 (.t 7) (.t 22), [], none⟩])
  (.region false [⟨some 23, .fad 0 (.t 5), [], none⟩,
    ⟨some 24, .load false 1 (.t 23), [], none⟩,
    ⟨some 25, .load true 8 (.t 7), [], none⟩,
    ⟨some 26, .call 101 [(false, .t 24), (false, .t 25)], [], none⟩,
    ⟨some 27, .fad 0 (.t 5), [], none⟩,
    ⟨none, .store 1 (.t 27) (.t 26), [], none⟩])))
  (.region false [⟨some 28, .bin .add (.t 19) (.k (.one (.iv (.int .i64 1)))), [], none⟩,
    ⟨some 19, .mov none (.t 28), [], none⟩])))
def b67 : VCode := .seq (.region false [⟨some 2, .box (.t 0), [], none⟩,
    ⟨some 3, .box (.t 1), [], none⟩,
    ⟨some 4, .new [.iv (.sl true 0 []), .iv (.arr 64 (List.replicate 64 (.int .i64 0)))], [], none⟩])
  (.seq (.region true [⟨some 8, .fad 0 (.t 2), [], none⟩,
    ⟨some 9, .load false 1 (.t 8), [0], none⟩,
    ⟨some 10, .fad 1 (.t 2), [], none⟩,
    ⟨some 11, .load true 64 (.t 10), [2], none⟩,
    ⟨some 12, .fad 1 (.t 3), [], none⟩,
    ⟨some 13, .load true 64 (.t 12), [4], none⟩,
    ⟨some 14, .call 29 [(false, .t 11), (false, .t 13)], [5, 3], none⟩,
    ⟨some 15, .build [.iv (.sl true 0 []), .iv (.arr 64 (List.replicate 64 (.int .i64 0)))] [(0, 1, .t 9), (1, 64, .t 14)], [6, 1], none⟩,
    ⟨some 5, .new [.iv (.sl true 0 []), .iv (.arr 64 (List.replicate 64 (.int .i64 0)))], [], none⟩,
    ⟨none, .store 65 (.t 5) (.t 15), [8, 7], none⟩])
  (.seq (.seq (.region false [⟨some 16, .fad 0 (.t 3), [], none⟩,
    ⟨some 17, .load false 1 (.t 16), [], none⟩,
    ⟨some 18, .blt .len [.t 17], [], none⟩,
    ⟨some 19, .mov none (.k (.one (.iv (.int .i64 0)))), [], none⟩])
  (.block 0 (.loop false [4, 5, 17, 18, 19] l67_0)))
  (.seq (.region false [⟨some 29, .load true 65 (.t 5), [], none⟩,
    ⟨none, .store 65 (.t 4) (.t 29), [], none⟩])
  (.ret))))
def v67 : VFn := ⟨2, 30, [.c 4 true 65], b67⟩

theorem c67 : chkFn Try.prog 67 v67 = true := by kernel_rfl

/- scholia/past.Same -/
def b68 : VCode := .seq (.region false [⟨some 2, .box (.t 0), [], none⟩,
    ⟨some 3, .box (.t 1), [], none⟩,
    ⟨some 4, .mov none (.k (.one (.iv (.bool false)))), [], none⟩])
  (.seq (.region false [⟨some 5, .fad 0 (.t 2), [], none⟩,
    ⟨some 6, .load false 1 (.t 5), [], none⟩,
    ⟨some 7, .fad 0 (.t 3), [], none⟩,
    ⟨some 8, .load false 1 (.t 7), [], none⟩,
    ⟨some 9, .call 69 [(false, .t 6), (false, .t 8)], [], none⟩,
    ⟨some 10, .mov none (.t 9), [], none⟩,
    ⟨some 11, .fad 1 (.t 2), [], some (10, true)⟩,
    ⟨some 12, .load true 64 (.t 11), [], some (10, true)⟩,
    ⟨some 13, .fad 1 (.t 3), [], some (10, true)⟩,
    ⟨some 14, .load true 64 (.t 13), [], some (10, true)⟩,
    ⟨some 15, .eqa .eql (List.replicate 64 .int) (.t 12) (.t 14), [], some (10, true)⟩,
    ⟨some 16, .pick (.t 10) (.t 15) (.k (.one (.iv (.bool false)))), [], none⟩,
    ⟨some 4, .mov none (.t 16), [], none⟩])
  (.ret))
def v68 : VFn := ⟨2, 17, [.t 4], b68⟩

theorem c68 : chkFn Try.prog 68 v68 = true := by kernel_rfl

/- scholia/past.SameEvents -/
def b69 : VCode := .seq (.region false [⟨some 4, .mov none (.k (.one (.iv (.bool false)))), [], none⟩])
  (.seq (.region false [⟨some 5, .mov none (.t 0), [], none⟩,
    ⟨some 6, .mov none (.t 1), [], none⟩,
    ⟨some 7, .call 103 [(false, .t 5), (false, .t 6), (false, .k (.one (.iv (.fn 104))))], [], none⟩,
    ⟨some 4, .mov none (.t 7), [], none⟩])
  (.ret))
def v69 : VFn := ⟨2, 8, [.t 4], b69⟩

theorem c69 : chkFn Try.prog 69 v69 = true := by kernel_rfl

/- scholia/past.clone -/
def b97 : VCode := .seq (.region false [⟨some 1, .box (.t 0), [], none⟩,
    ⟨some 2, .new [.iv (.int .i64 0), .iv (.int .i64 0), .iv (.int .i64 0), .iv (.int .i64 0), .iv (.str ⟨#[]⟩), .iv (.int .i64 0), .iv (.str ⟨#[]⟩), .iv (.sl true 0 [])], [], none⟩])
  (.seq (.region false [⟨some 3, .fad 7 (.t 1), [], none⟩,
    ⟨some 4, .load false 1 (.t 3), [], none⟩,
    ⟨some 5, .call 83 [(false, .t 4)], [], none⟩,
    ⟨some 6, .fad 7 (.t 1), [], none⟩,
    ⟨none, .store 1 (.t 6) (.t 5), [], none⟩])
  (.seq (.region false [⟨some 7, .load true 8 (.t 1), [], none⟩,
    ⟨none, .store 8 (.t 2) (.t 7), [], none⟩])
  (.ret)))
def v97 : VFn := ⟨1, 8, [.c 2 true 8], b97⟩

theorem c97 : chkFn Try.prog 97 v97 = true := by kernel_rfl

/- scholia/past.copies -/
def l98_0 : VCode := .seq (.region false [⟨some 9, .bin .lss (.t 8) (.t 7), [], none⟩])
  (.seq (.cond (.t 9) (.skip) (.exit 0))
  (.seq (.block 1 (.seq (.region false [⟨some 10, .ixS 8 (.t 6) (.t 8), [], none⟩,
    ⟨some 11, .load true 8 (.t 10), [], none⟩,
    ⟨some 5, .new [.iv (.int .i64 0), .iv (.int .i64 0), .iv (.int .i64 0), .iv (.int .i64 0), .iv (.str ⟨#[]⟩), .iv (.int .i64 0), .iv (.str ⟨#[]⟩), .iv (.sl true 0 [])], [], none⟩,
    ⟨none, .store 8 (.t 5) (.t 11), [], none⟩])
  (.region false [⟨some 12, .mov none (.t 3), [], none⟩,
    ⟨some 13, .load true 8 (.t 5), [], none⟩,
    ⟨some 14, .call 97 [(false, .t 13)], [], none⟩,
    ⟨some 15, .mks false 8 [.t 14], [], none⟩,
    ⟨some 16, .blt (.append 8 96) [.t 12, .t 15], [], none⟩,
    ⟨some 3, .mov none (.t 16), [], none⟩])))
  (.region false [⟨some 17, .bin .add (.t 8) (.k (.one (.iv (.int .i64 1)))), [], none⟩,
    ⟨some 8, .mov none (.t 17), [], none⟩])))
def b98 : VCode := .seq (.region false [⟨some 2, .mov none (.k (.one (.iv (.sl true 0 [])))), [], none⟩])
  (.seq (.region false [⟨some 3, .mov (some 8) (.k (.one (.iv (.sl true 0 [])))), [], none⟩])
  (.seq (.seq (.region false [⟨some 6, .mov none (.t 0), [], none⟩,
    ⟨some 7, .blt .len [.t 6], [], none⟩,
    ⟨some 8, .mov none (.k (.one (.iv (.int .i64 0)))), [], none⟩])
  (.block 0 (.loop false [3, 6, 7, 8] l98_0)))
  (.seq (.region false [⟨some 18, .mov none (.t 3), [], none⟩,
    ⟨some 2, .mov none (.t 18), [], none⟩])
  (.ret))))
def v98 : VFn := ⟨1, 19, [.t 2], b98⟩

theorem c98 : chkFn Try.prog 98 v98 = true := by kernel_rfl

/- slices.ContainsFunc[[]scholia/api.Event,scholia/api.Event] -/
def b99 : VCode := .seq (.region false [⟨some 4, .mov none (.k (.one (.iv (.bool false)))), [], none⟩])
  (.seq (.region false [⟨some 5, .mov none (.t 0), [], none⟩,
    ⟨some 6, .mov none (.t 1), [], none⟩,
    ⟨some 7, .call 127 [(false, .t 5), (false, .t 6)], [], none⟩,
    ⟨some 8, .bin .geq (.t 7) (.k (.one (.iv (.int .i64 0)))), [], none⟩,
    ⟨some 4, .mov none (.t 8), [], none⟩])
  (.ret))
def v99 : VFn := ⟨2, 9, [.t 4], b99⟩

theorem c99 : chkFn Try.prog 99 v99 = true := by kernel_rfl

/- scholia/past.Add$1 -/
def b100 : VCode := .seq (.region false [⟨some 2, .box (.t 0), [], none⟩,
    ⟨some 3, .mov none (.k (.one (.iv (.bool false)))), [], none⟩])
  (.seq (.region false [⟨some 4, .fad 0 (.t 2), [], none⟩,
    ⟨some 5, .load true 2 (.t 4), [], none⟩,
    ⟨some 6, .fad 0 (.t 1), [], none⟩,
    ⟨some 7, .load true 2 (.t 6), [], none⟩,
    ⟨some 8, .eqa .eql ([.int] ++ [.int]) (.t 5) (.t 7), [], none⟩,
    ⟨some 3, .mov none (.t 8), [], none⟩])
  (.ret))
def v100 : VFn := ⟨2, 9, [.t 3], b100⟩

theorem c100 : chkFn Try.prog 100 v100 = true := by kernel_rfl

/- scholia/scholiaref13.add -/
def b101 : VCode := .seq (.region false [⟨some 3, .box (.t 1), [], none⟩,
    ⟨some 4, .mov none (.k (.one (.iv (.sl true 0 [])))), [], none⟩])
  (.seq (.region false [⟨some 5, .mov (some 8) (.k (.one (.iv (.sl true 0 [])))), [], none⟩])
  (.seq (.region false [⟨some 6, .mov none (.t 5), [], none⟩,
    ⟨some 7, .mov none (.t 0), [], none⟩,
    ⟨some 8, .blt (.append 8 96) [.t 6, .t 7], [], none⟩,
    ⟨some 5, .mov none (.t 8), [], none⟩])
  (.seq (.seq (.region false [⟨some 9, .mov none (.t 0), [], none⟩,
    ⟨some 10, .fad 0 (.t 3), [], none⟩,
    ⟨some 11, .load true 2 (.t 10), [], none⟩,
    ⟨some 12, .call 128 [(false, .t 9), (false, .t 11)], [], none⟩])
  (.cond (.t 12) (.seq (.region false [⟨some 13, .mov none (.t 5), [], none⟩,
    ⟨some 4, .mov none (.t 13), [], none⟩])
  (.ret)) (.skip)))
  (.seq (.region false [⟨some 14, .mov none (.t 5), [], none⟩,
    ⟨some 15, .load true 8 (.t 3), [], none⟩,
    ⟨some 16, .mks false 8 [.t 15], [], none⟩,
    ⟨some 17, .blt (.append 8 96) [.t 14, .t 16], [], none⟩,
    ⟨some 4, .mov none (.t 17), [], none⟩])
  (.ret)))))
def v101 : VFn := ⟨2, 18, [.t 4], b101⟩

theorem c101 : chkFn Try.prog 101 v101 = true := by kernel_rfl

/- scholia/scholiaref13.puts -/
def l102_0 : VCode := .seq (.region false [⟨some 9, .bin .lss (.t 8) (.t 7), [], none⟩])
  (.seq (.cond (.t 9) (.skip) (.exit 0))
  (.seq (.block 1 (.seq (.region false [⟨some 10, .ixS 8 (.t 6) (.t 8), [], none⟩,
    ⟨some 11, .load true 8 (.t 10), [], none⟩,
    ⟨some 5, .new [.iv (.int .i64 0), .iv (.int .i64 0), .iv (.int .i64 0), .iv (.int .i64 0), .iv (.str ⟨#[]⟩), .iv (.int .i64 0), .iv (.str ⟨#[]⟩), .iv (.sl true 0 [])], [], none⟩,
    ⟨none, .store 8 (.t 5) (.t 11), [], none⟩])
  (.seq (.region false [⟨some 12, .fad 3 (.t 5), [], none⟩,
    ⟨some 13, .load false 1 (.t 12), [], none⟩,
    ⟨some 14, .bin .neq (.t 13) (.k (.one (.iv (.int .i64 2)))), [], none⟩])
  (.cond (.t 14) (.region false [⟨some 15, .mov none (.t 3), [], none⟩,
    ⟨some 16, .bin .add (.t 15) (.k (.one (.iv (.int .i64 1)))), [], none⟩,
    ⟨some 3, .mov none (.t 16), [], none⟩]) (.skip)))))
  (.region false [⟨some 17, .bin .add (.t 8) (.k (.one (.iv (.int .i64 1)))), [], none⟩,
    ⟨some 8, .mov none (.t 17), [], none⟩])))
def b102 : VCode := .seq (.region false [⟨some 2, .mov none (.k (.one (.iv (.int .i64 0)))), [], none⟩])
  (.seq (.region false [⟨some 3, .mov none (.k (.one (.iv (.int .i64 0)))), [], none⟩])
  (.seq (.seq (.region false [⟨some 6, .mov none (.t 0), [], none⟩,
    ⟨some 7, .blt .len [.t 6], [], none⟩,
    ⟨some 8, .mov none (.k (.one (.iv (.int .i64 0)))), [], none⟩])
  (.block 0 (.loop false [3, 6, 7, 8] l102_0)))
  (.seq (.region false [⟨some 18, .mov none (.t 3), [], none⟩,
    ⟨some 2, .mov none (.t 18), [], none⟩])
  (.ret))))
def v102 : VFn := ⟨1, 19, [.t 2], b102⟩

theorem c102 : chkFn Try.prog 102 v102 = true := by kernel_rfl

/- slices.EqualFunc[[]scholia/api.Event,[]scholia/api.Event,scholia/api.Event,scholia/api.Event] -/
def l103_0 : VCode := .seq (.region false [⟨some 18, .bin .lss (.t 17) (.t 16), [], none⟩])
  (.seq (.cond (.t 18) (.skip) (.exit 0))
  (.seq (.block 1 (.seq (.region false [⟨some 19, .mov none (.t 17), [], none⟩,
    ⟨some 20, .ixS 8 (.t 15) (.t 17), [], none⟩,
    ⟨some 21, .load true 8 (.t 20), [], none⟩,
    ⟨some 8, .new [.iv (.int .i64 0), .iv (.int .i64 0), .iv (.int .i64 0), .iv (.int .i64 0), .iv (.str ⟨#[]⟩), .iv (.int .i64 0), .iv (.str ⟨#[]⟩), .iv (.sl true 0 [])], [], none⟩,
    ⟨some 7, .mov none (.t 19), [], none⟩,
    ⟨none, .store 8 (.t 8) (.t 21), [], none⟩])
  (.seq (.region false [⟨some 22, .mov none (.t 1), [], none⟩,
    ⟨some 23, .mov none (.t 7), [], none⟩,
    ⟨some 24, .ixS 8 (.t 22) (.t 23), [], none⟩,
    ⟨some 25, .load true 8 (.t 24), [], none⟩,
    ⟨some 9, .new [.iv (.int .i64 0), .iv (.int .i64 0), .iv (.int .i64 0), .iv (.int .i64 0), .iv (.str ⟨#[]⟩), .iv (.int .i64 0), .iv (.str ⟨#[]⟩), .iv (.sl true 0 [])], [], none⟩,
    ⟨none, .store 8 (.t 9) (.t 25), [], none⟩])
  (.seq (.region false [⟨some 26, .mov none (.t 2), [], none⟩,
    ⟨some 27, .load true 8 (.t 8), [], none⟩,
    ⟨some 28, .load true 8 (.t 9), [], none⟩,
    ⟨some 29, .callv (.t 26) [(false, .t 27), (false, .t 28)], [], none⟩,
    ⟨some 30, .un .not (.t 29), [], none⟩])
  (.cond (.t 30) (.seq (.region false [⟨some 6, .mov none (.k (.one (.iv (.bool false)))), [], none⟩])
  (.ret)) (.skip))))))
  (.region false [⟨some 31, .bin .add (.t 17) (.k (.one (.iv (.int .i64 1)))), [], none⟩,
    ⟨some 17, .mov none (.t 31), [], none⟩])))
def b103 : VCode := .seq (.region false [⟨some 6, .mov none (.k (.one (.iv (.bool false)))), [], none⟩])
  (.seq (.seq (.region false [⟨some 10, .mov none (.t 0), [], none⟩,
    ⟨some 11, .blt .len [.t 10], [], none⟩,
    ⟨some 12, .mov none (.t 1), [], none⟩,
    ⟨some 13, .blt .len [.t 12], [], none⟩,
    ⟨some 14, .bin .neq (.t 11) (.t 13), [], none⟩])
  (.cond (.t 14) (.seq (.region false [⟨some 6, .mov none (.k (.one (.iv (.bool false)))), [], none⟩])
  (.ret)) (.skip)))
  (.seq (.seq (.region false [⟨some 15, .mov none (.t 0), [], none⟩,
    ⟨some 16, .blt .len [.t 15], [], none⟩,
    ⟨some 17, .mov none (.k (.one (.iv (.int .i64 0)))), [], none⟩])
  (.block 0 (.loop false [1, 2, 15, 16, 17] l103_0)))
  (.seq (.region false [⟨some 6, .mov none (.k (.one (.iv (.bool true)))), [], none⟩])
  (.ret))))
def v103 : VFn := ⟨3, 32, [.t 6], b103⟩

theorem c103 : chkFn Try.prog 103 v103 = true := by kernel_rfl

/- scholia/past.same -/
def b104 : VCode := .seq (.region false [⟨some 2, .box (.t 0), [], none⟩,
    ⟨some 3, .box (.t 1), [], none⟩,
    ⟨some 4, .mov none (.k (.one (.iv (.bool false)))), [], none⟩])
  (.seq (.region false [⟨some 5, .fad 0 (.t 2), [], none⟩,
    ⟨some 6, .load true 2 (.t 5), [], none⟩,
    ⟨some 7, .fad 0 (.t 3), [], none⟩,
    ⟨some 8, .load true 2 (.t 7), [], none⟩,
    ⟨some 9, .eqa .eql ([.int] ++ [.int]) (.t 6) (.t 8), [], none⟩,
    ⟨some 10, .mov none (.t 9), [], none⟩,
    ⟨some 11, .fad 2 (.t 2), [], some (10, true)⟩,
    ⟨some 12, .load false 1 (.t 11), [], some (10, true)⟩,
    ⟨some 13, .fad 2 (.t 3), [], some (10, true)⟩,
    ⟨some 14, .load false 1 (.t 13), [], some (10, true)⟩,
    ⟨some 15, .bin .eql (.t 12) (.t 14), [], some (10, true)⟩,
    ⟨some 16, .pick (.t 10) (.t 15) (.k (.one (.iv (.bool false)))), [], none⟩,
    ⟨some 17, .mov none (.t 16), [], none⟩,
    ⟨some 18, .fad 3 (.t 2), [], some (17, true)⟩,
    ⟨some 19, .load false 1 (.t 18), [], some (17, true)⟩,
    ⟨some 20, .fad 3 (.t 3), [], some (17, true)⟩,
    ⟨some 21, .load false 1 (.t 20), [], some (17, true)⟩,
    ⟨some 22, .bin .eql (.t 19) (.t 21), [], some (17, true)⟩,
    ⟨some 23, .pick (.t 17) (.t 22) (.k (.one (.iv (.bool false)))), [], none⟩,
    ⟨some 24, .mov none (.t 23), [], none⟩,
    ⟨some 25, .fad 4 (.t 2), [], some (24, true)⟩,
    ⟨some 26, .load false 1 (.t 25), [], some (24, true)⟩,
    ⟨some 27, .fad 4 (.t 3), [], some (24, true)⟩,
    ⟨some 28, .load false 1 (.t 27), [], some (24, true)⟩,
    ⟨some 29, .bin .eql (.t 26) (.t 28), [], some (24, true)⟩,
    ⟨some 30, .pick (.t 24) (.t 29) (.k (.one (.iv (.bool false)))), [], none⟩,
    ⟨some 31, .mov none (.t 30), [], none⟩,
    ⟨some 32, .fad 5 (.t 2), [], some (31, true)⟩,
    ⟨some 33, .load false 1 (.t 32), [], some (31, true)⟩,
    ⟨some 34, .fad 5 (.t 3), [], some (31, true)⟩,
    ⟨some 35, .load false 1 (.t 34), [], some (31, true)⟩,
    ⟨some 36, .bin .eql (.t 33) (.t 35), [], some (31, true)⟩,
    ⟨some 37, .pick (.t 31) (.t 36) (.k (.one (.iv (.bool false)))), [], none⟩,
    ⟨some 38, .mov none (.t 37), [], none⟩,
    ⟨some 39, .fad 6 (.t 2), [], some (38, true)⟩,
    ⟨some 40, .load false 1 (.t 39), [], some (38, true)⟩,
    ⟨some 41, .fad 6 (.t 3), [], some (38, true)⟩,
    ⟨some 42, .load false 1 (.t 41), [], some (38, true)⟩,
    ⟨some 43, .bin .eql (.t 40) (.t 42), [], some (38, true)⟩,
    ⟨some 44, .pick (.t 38) (.t 43) (.k (.one (.iv (.bool false)))), [], none⟩,
    ⟨some 45, .mov none (.t 44), [], none⟩,
    ⟨some 46, .fad 7 (.t 2), [], some (45, true)⟩,
    ⟨some 47, .load false 1 (.t 46), [], some (45, true)⟩,
    ⟨some 48, .fad 7 (.t 3), [], some (45, true)⟩,
    ⟨some 49, .load false 1 (.t 48), [], some (45, true)⟩,
    ⟨some 50, .call 88 [(false, .t 47), (false, .t 49)], [], some (45, true)⟩,
    ⟨some 51, .pick (.t 45) (.t 50) (.k (.one (.iv (.bool false)))), [], none⟩,
    ⟨some 4, .mov none (.t 51), [], none⟩])
  (.ret))
def v104 : VFn := ⟨2, 52, [.t 4], b104⟩

theorem c104 : chkFn Try.prog 104 v104 = true := by kernel_rfl

/- slices.IndexFunc[[]scholia/api.Event,scholia/api.Event] -/
def l127_0 : VCode := .seq (.region false [⟨some 9, .bin .lss (.t 8) (.t 7), [], none⟩])
  (.seq (.cond (.t 9) (.skip) (.exit 0))
  (.seq (.block 1 (.seq (.region false [⟨some 10, .mov none (.t 8), [], none⟩,
    ⟨some 5, .mov none (.t 10), [], none⟩])
  (.seq (.region false [⟨some 11, .mov none (.t 1), [], none⟩,
    ⟨some 12, .mov none (.t 0), [], none⟩,
    ⟨some 13, .mov none (.t 5), [], none⟩,
    ⟨some 14, .ixS 8 (.t 12) (.t 13), [], none⟩,
    ⟨some 15, .load true 8 (.t 14), [], none⟩,
    ⟨some 16, .callv (.t 11) [(false, .t 15)], [], none⟩])
  (.cond (.t 16) (.seq (.region false [⟨some 17, .mov none (.t 5), [], none⟩,
    ⟨some 4, .mov none (.t 17), [], none⟩])
  (.ret)) (.skip)))))
  (.region false [⟨some 18, .bin .add (.t 8) (.k (.one (.iv (.int .i64 1)))), [], none⟩,
    ⟨some 8, .mov none (.t 18), [], none⟩])))
def b127 : VCode := .seq (.region false [⟨some 4, .mov none (.k (.one (.iv (.int .i64 0)))), [], none⟩])
  (.seq (.seq (.region false [⟨some 6, .mov none (.t 0), [], none⟩,
    ⟨some 7, .blt .len [.t 6], [], none⟩,
    ⟨some 8, .mov none (.k (.one (.iv (.int .i64 0)))), [], none⟩])
  (.block 0 (.loop false [0, 1, 7, 8] l127_0)))
  (.seq (.region false [⟨some 4, .mov none (.k (.one (.iv (.int .i64 (-1))))), [], none⟩])
  (.ret)))
def v127 : VFn := ⟨2, 19, [.t 4], b127⟩

theorem c127 : chkFn Try.prog 127 v127 = true := by kernel_rfl

/- scholia/scholiaref13.has -/
def l128_0 : VCode := .seq (.region false [⟨some 10, .bin .lss (.t 9) (.t 8), [], none⟩])
  (.seq (.cond (.t 10) (.skip) (.exit 0))
  (.seq (.block 1 (.seq (.region false [⟨some 11, .ixS 8 (.t 7) (.t 9), [], none⟩,
    ⟨some 12, .load true 8 (.t 11), [], none⟩,
    ⟨some 6, .new [.iv (.int .i64 0), .iv (.int .i64 0), .iv (.int .i64 0), .iv (.int .i64 0), .iv (.str ⟨#[]⟩), .iv (.int .i64 0), .iv (.str ⟨#[]⟩), .iv (.sl true 0 [])], [], none⟩,
    ⟨none, .store 8 (.t 6) (.t 12), [], none⟩])
  (.seq (.region false [⟨some 13, .fad 0 (.t 6), [], none⟩,
    ⟨some 14, .load true 2 (.t 13), [], none⟩,
    ⟨some 15, .load true 2 (.t 3), [], none⟩,
    ⟨some 16, .eqa .eql ([.int] ++ [.int]) (.t 14) (.t 15), [], none⟩])
  (.cond (.t 16) (.seq (.region false [⟨some 4, .mov none (.k (.one (.iv (.bool true)))), [], none⟩])
  (.ret)) (.skip)))))
  (.region false [⟨some 17, .bin .add (.t 9) (.k (.one (.iv (.int .i64 1)))), [], none⟩,
    ⟨some 9, .mov none (.t 17), [], none⟩])))
def b128 : VCode := .seq (.region false [⟨some 3, .box (.t 1), [], none⟩,
    ⟨some 4, .mov none (.k (.one (.iv (.bool false)))), [], none⟩])
  (.seq (.seq (.region false [⟨some 7, .mov none (.t 0), [], none⟩,
    ⟨some 8, .blt .len [.t 7], [], none⟩,
    ⟨some 9, .mov none (.k (.one (.iv (.int .i64 0)))), [], none⟩])
  (.block 0 (.loop false [3, 7, 8, 9] l128_0)))
  (.seq (.region false [⟨some 4, .mov none (.k (.one (.iv (.bool false)))), [], none⟩])
  (.ret)))
def v128 : VFn := ⟨2, 18, [.t 4], b128⟩

theorem c128 : chkFn Try.prog 128 v128 = true := by kernel_rfl

/- slices.Equal[[]scholia/api.Dot,scholia/api.Dot] -/
def l88_0 : VCode := .seq (.region false [⟨some 14, .bin .lss (.t 13) (.t 12), [], none⟩])
  (.seq (.cond (.t 14) (.skip) (.exit 0))
  (.seq (.block 1 (.seq (.region false [⟨some 15, .mov none (.t 13), [], none⟩,
    ⟨some 5, .mov none (.t 15), [], none⟩])
  (.seq (.region true [⟨some 16, .mov none (.t 0), [], none⟩,
    ⟨some 17, .mov none (.t 5), [], none⟩,
    ⟨some 18, .ixS 2 (.t 16) (.t 17), [1, 0], none⟩,
    ⟨some 19, .load true 2 (.t 18), [2], none⟩,
    ⟨some 20, .mov none (.t 1), [], none⟩,
    ⟨some 21, .mov none (.t 5), [], none⟩,
    ⟨some 22, .ixS 2 (.t 20) (.t 21), [5, 4], none⟩,
    ⟨some 23, .load true 2 (.t 22), [6], none⟩,
    ⟨some 24, .eqa .neq ([.int] ++ [.int]) (.t 19) (.t 23), [7, 3], none⟩])
  (.cond (.t 24) (.seq (.region false [⟨some 4, .mov none (.k (.one (.iv (.bool false)))), [], none⟩])
  (.ret)) (.skip)))))
  (.region false [⟨some 25, .bin .add (.t 13) (.k (.one (.iv (.int .i64 1)))), [], none⟩,
    ⟨some 13, .mov none (.t 25), [], none⟩])))
def b88 : VCode := .seq (.region false [⟨some 4, .mov none (.k (.one (.iv (.bool false)))), [], none⟩])
  (.seq (.seq (.region false [⟨some 6, .mov none (.t 0), [], none⟩,
    ⟨some 7, .blt .len [.t 6], [], none⟩,
    ⟨some 8, .mov none (.t 1), [], none⟩,
    ⟨some 9, .blt .len [.t 8], [], none⟩,
    ⟨some 10, .bin .neq (.t 7) (.t 9), [], none⟩])
  (.cond (.t 10) (.seq (.region false [⟨some 4, .mov none (.k (.one (.iv (.bool false)))), [], none⟩])
  (.ret)) (.skip)))
  (.seq (.seq (.region false [⟨some 11, .mov none (.t 0), [], none⟩,
    ⟨some 12, .blt .len [.t 11], [], none⟩,
    ⟨some 13, .mov none (.k (.one (.iv (.int .i64 0)))), [], none⟩])
  (.block 0 (.loop false [0, 1, 12, 13] l88_0)))
  (.seq (.region false [⟨some 4, .mov none (.k (.one (.iv (.bool true)))), [], none⟩])
  (.ret))))
def v88 : VFn := ⟨2, 26, [.t 4], b88⟩

theorem c88 : chkFn Try.prog 88 v88 = true := by kernel_rfl

/- scholia/dots.Valid -/
def b18 : VCode := .seq (.region false [⟨some 1, .box (.t 0), [], none⟩,
    ⟨some 2, .mov none (.k (.one (.iv (.bool false)))), [], none⟩])
  (.seq (.region false [⟨some 3, .fad 0 (.t 1), [], none⟩,
    ⟨some 4, .load false 1 (.t 3), [], none⟩,
    ⟨some 5, .bin .geq (.t 4) (.k (.one (.iv (.int .i64 0)))), [], none⟩,
    ⟨some 6, .mov none (.t 5), [], none⟩,
    ⟨some 7, .fad 0 (.t 1), [], some (6, true)⟩,
    ⟨some 8, .load false 1 (.t 7), [], some (6, true)⟩,
    ⟨some 9, .bin .lss (.t 8) (.k (.one (.iv (.int .i64 64)))), [], some (6, true)⟩,
    ⟨some 10, .pick (.t 6) (.t 9) (.k (.one (.iv (.bool false)))), [], none⟩,
    ⟨some 11, .mov none (.t 10), [], none⟩,
    ⟨some 12, .fad 1 (.t 1), [], some (11, true)⟩,
    ⟨some 13, .load false 1 (.t 12), [], some (11, true)⟩,
    ⟨some 14, .bin .geq (.t 13) (.k (.one (.iv (.int .i64 1)))), [], some (11, true)⟩,
    ⟨some 15, .pick (.t 11) (.t 14) (.k (.one (.iv (.bool false)))), [], none⟩,
    ⟨some 16, .mov none (.t 15), [], none⟩,
    ⟨some 17, .fad 1 (.t 1), [], some (16, true)⟩,
    ⟨some 18, .load false 1 (.t 17), [], some (16, true)⟩,
    ⟨some 19, .bin .leq (.t 18) (.k (.one (.iv (.int .i64 1073741824)))), [], some (16, true)⟩,
    ⟨some 20, .pick (.t 16) (.t 19) (.k (.one (.iv (.bool false)))), [], none⟩,
    ⟨some 2, .mov none (.t 20), [], none⟩])
  (.ret))
def v18 : VFn := ⟨1, 21, [.t 2], b18⟩

theorem c18 : chkFn Try.prog 18 v18 = true := by kernel_rfl

/- scholia/scholiaref08.Valid -/
def b19 : VCode := .seq (.region false [⟨some 1, .box (.t 0), [], none⟩,
    ⟨some 2, .mov none (.k (.one (.iv (.bool false)))), [], none⟩])
  (.seq (.region false [⟨some 3, .fad 0 (.t 1), [], none⟩,
    ⟨some 4, .load false 1 (.t 3), [], none⟩,
    ⟨some 5, .bin .geq (.t 4) (.k (.one (.iv (.int .i64 0)))), [], none⟩,
    ⟨some 6, .mov none (.t 5), [], none⟩,
    ⟨some 7, .fad 0 (.t 1), [], some (6, true)⟩,
    ⟨some 8, .load false 1 (.t 7), [], some (6, true)⟩,
    ⟨some 9, .bin .leq (.t 8) (.k (.one (.iv (.int .i64 63)))), [], some (6, true)⟩,
    ⟨some 10, .pick (.t 6) (.t 9) (.k (.one (.iv (.bool false)))), [], none⟩,
    ⟨some 11, .mov none (.t 10), [], none⟩,
    ⟨some 12, .fad 1 (.t 1), [], some (11, true)⟩,
    ⟨some 13, .load false 1 (.t 12), [], some (11, true)⟩,
    ⟨some 14, .bin .geq (.t 13) (.k (.one (.iv (.int .i64 1)))), [], some (11, true)⟩,
    ⟨some 15, .pick (.t 11) (.t 14) (.k (.one (.iv (.bool false)))), [], none⟩,
    ⟨some 16, .mov none (.t 15), [], none⟩,
    ⟨some 17, .fad 1 (.t 1), [], some (16, true)⟩,
    ⟨some 18, .load false 1 (.t 17), [], some (16, true)⟩,
    ⟨some 19, .bin .leq (.t 18) (.k (.one (.iv (.int .i64 1073741824)))), [], some (16, true)⟩,
    ⟨some 20, .pick (.t 16) (.t 19) (.k (.one (.iv (.bool false)))), [], none⟩,
    ⟨some 2, .mov none (.t 20), [], none⟩])
  (.ret))
def v19 : VFn := ⟨1, 21, [.t 2], b19⟩

theorem c19 : chkFn Try.prog 19 v19 = true := by kernel_rfl

/- scholia/dots.Has -/
def b21 : VCode := .seq (.region false [⟨some 2, .box (.t 0), [], none⟩,
    ⟨some 3, .box (.t 1), [], none⟩,
    ⟨some 4, .mov none (.k (.one (.iv (.bool false)))), [], none⟩])
  (.seq (.region true [⟨some 5, .load true 2 (.t 3), [], none⟩,
    ⟨some 6, .call 18 [(false, .t 5)], [0], none⟩,
    ⟨some 7, .mov none (.t 6), [1], none⟩,
    ⟨some 8, .fad 1 (.t 3), [2], some (7, true)⟩,
    ⟨some 9, .load false 1 (.t 8), [3], some (7, true)⟩,
    ⟨some 10, .fad 0 (.t 3), [2], some (7, true)⟩,
    ⟨some 11, .load false 1 (.t 10), [5], some (7, true)⟩,
    ⟨some 12, .ixA 64 1 (.t 2) (.t 11), [6], some (7, true)⟩,
    ⟨some 13, .load false 1 (.t 12), [7], some (7, true)⟩,
    ⟨some 14, .bin .leq (.t 9) (.t 13), [8, 4], some (7, true)⟩,
    ⟨some 15, .pick (.t 7) (.t 14) (.k (.one (.iv (.bool false)))), [9], none⟩,
    ⟨some 4, .mov none (.t 15), [10], none⟩])
  (.ret))
def v21 : VFn := ⟨2, 16, [.t 4], b21⟩

theorem c21 : chkFn Try.prog 21 v21 = true := by kernel_rfl

/- scholia/scholiaref08.Has -/
def b22 : VCode := .seq (.region false [⟨some 2, .box (.t 0), [], none⟩,
    ⟨some 3, .box (.t 1), [], none⟩,
    ⟨some 4, .mov none (.k (.one (.iv (.bool false)))), [], none⟩])
  (.seq (.region true [⟨some 5, .load true 2 (.t 3), [], none⟩,
    ⟨some 6, .call 19 [(false, .t 5)], [0], none⟩,
    ⟨some 7, .mov none (.t 6), [1], none⟩,
    ⟨some 8, .fad 0 (.t 3), [2], some (7, true)⟩,
    ⟨some 9, .load false 1 (.t 8), [3], some (7, true)⟩,
    ⟨some 10, .ixA 64 1 (.t 2) (.t 9), [4], some (7, true)⟩,
    ⟨some 11, .load false 1 (.t 10), [5], some (7, true)⟩,
    ⟨some 12, .fad 1 (.t 3), [2], some (7, true)⟩,
    ⟨some 13, .load false 1 (.t 12), [7], some (7, true)⟩,
    ⟨some 14, .bin .geq (.t 11) (.t 13), [8, 6], some (7, true)⟩,
    ⟨some 15, .pick (.t 7) (.t 14) (.k (.one (.iv (.bool false)))), [9], none⟩,
    ⟨some 4, .mov none (.t 15), [10], none⟩])
  (.ret))
def v22 : VFn := ⟨2, 16, [.t 4], b22⟩

theorem c22 : chkFn Try.prog 22 v22 = true := by kernel_rfl

/- scholia/dots.With -/
def b23 : VCode := .seq (.region false [⟨some 2, .box (.t 0), [], none⟩,
    ⟨some 3, .box (.t 1), [], none⟩,
    ⟨some 4, .new [.iv (.arr 64 (List.replicate 64 (.int .i64 0)))], [], none⟩])
  (.seq (.seq (.region false [⟨some 5, .load true 2 (.t 3), [], none⟩,
    ⟨some 6, .call 18 [(false, .t 5)], [], none⟩])
  (.cond (.t 6) (.region true [⟨some 7, .fad 0 (.t 3), [], none⟩,
    ⟨some 8, .load false 1 (.t 7), [0], none⟩,
    ⟨some 9, .fad 0 (.t 3), [], none⟩,
    ⟨some 10, .load false 1 (.t 9), [2], none⟩,
    ⟨some 11, .ixA 64 1 (.t 2) (.t 10), [3], none⟩,
    ⟨some 12, .load false 1 (.t 11), [4], none⟩,
    ⟨some 13, .fad 1 (.t 3), [], none⟩,
    ⟨some 14, .load false 1 (.t 13), [6], none⟩,
    ⟨some 15, .blt .max [.t 12, .t 14], [7, 5], none⟩,
    ⟨some 16, .ixA 64 1 (.t 2) (.t 8), [8, 1], none⟩,
    ⟨none, .store 1 (.t 16) (.t 15), [9], none⟩]) (.skip)))
  (.seq (.region false [⟨some 17, .load true 64 (.t 2), [], none⟩,
    ⟨none, .store 64 (.t 4) (.t 17), [], none⟩])
  (.ret)))
def v23 : VFn := ⟨2, 18, [.c 4 true 64], b23⟩

theorem c23 : chkFn Try.prog 23 v23 = true := by kernel_rfl

/- scholia/scholiaref08.With -/
def b24 : VCode := .seq (.region false [⟨some 2, .box (.t 0), [], none⟩,
    ⟨some 3, .box (.t 1), [], none⟩,
    ⟨some 4, .new [.iv (.arr 64 (List.replicate 64 (.int .i64 0)))], [], none⟩])
  (.seq (.seq (.region true [⟨some 5, .load true 2 (.t 3), [], none⟩,
    ⟨some 6, .call 19 [(false, .t 5)], [0], none⟩,
    ⟨some 7, .mov none (.t 6), [1], none⟩,
    ⟨some 8, .fad 0 (.t 3), [2], some (7, true)⟩,
    ⟨some 9, .load false 1 (.t 8), [3], some (7, true)⟩,
    ⟨some 10, .ixA 64 1 (.t 2) (.t 9), [4], some (7, true)⟩,
    ⟨some 11, .load false 1 (.t 10), [5], some (7, true)⟩,
    ⟨some 12, .fad 1 (.t 3), [2], some (7, true)⟩,
    ⟨some 13, .load false 1 (.t 12), [7], some (7, true)⟩,
    ⟨some 14, .bin .lss (.t 11) (.t 13), [8, 6], some (7, true)⟩,
    ⟨some 15, .pick (.t 7) (.t 14) (.k (.one (.iv (.bool false)))), [9], none⟩])
  (.cond (.t 15) (.region false [⟨some 16, .fad 0 (.t 3), [], none⟩,
    ⟨some 17, .load false 1 (.t 16), [], none⟩,
    ⟨some 18, .fad 1 (.t 3), [], none⟩,
    ⟨some 19, .load false 1 (.t 18), [], none⟩,
    ⟨some 20, .ixA 64 1 (.t 2) (.t 17), [], none⟩,
    ⟨none, .store 1 (.t 20) (.t 19), [], none⟩]) (.skip)))
  (.seq (.region false [⟨some 21, .load true 64 (.t 2), [], none⟩,
    ⟨none, .store 64 (.t 4) (.t 21), [], none⟩])
  (.ret)))
def v24 : VFn := ⟨2, 22, [.c 4 true 64], b24⟩

theorem c24 : chkFn Try.prog 24 v24 = true := by kernel_rfl

/- scholia/dots.Join -/
def b26 : VCode := .seq (.region false [⟨some 2, .box (.t 0), [], none⟩,
    ⟨some 3, .box (.t 1), [], none⟩,
    ⟨some 4, .new [.iv (.arr 64 (List.replicate 64 (.int .i64 0)))], [], none⟩])
  (.seq (.region false [⟨some 5, .load true 64 (.t 2), [], none⟩,
    ⟨some 6, .load true 64 (.t 3), [], none⟩,
    ⟨some 7, .call 78 [(false, .t 5), (false, .t 6), (false, .k (.one (.iv (.fn 79))))], [], none⟩,
    ⟨none, .store 64 (.t 4) (.t 7), [], none⟩])
  (.ret))
def v26 : VFn := ⟨2, 8, [.c 4 true 64], b26⟩

theorem c26 : chkFn Try.prog 26 v26 = true := by kernel_rfl

/- scholia/dots.Within -/
def b28 : VCode := .seq (.region false [⟨some 2, .box (.t 0), [], none⟩,
    ⟨some 3, .box (.t 1), [], none⟩,
    ⟨some 4, .mov none (.k (.one (.iv (.bool false)))), [], none⟩])
  (.seq (.region true [⟨some 5, .load true 64 (.t 2), [], none⟩,
    ⟨some 6, .load true 64 (.t 3), [], none⟩,
    ⟨some 7, .call 26 [(false, .t 5), (false, .t 6)], [1, 0], none⟩,
    ⟨some 8, .load true 64 (.t 3), [], none⟩,
    ⟨some 9, .eqa .eql (List.replicate 64 .int) (.t 7) (.t 8), [3, 2], none⟩,
    ⟨some 4, .mov none (.t 9), [4], none⟩])
  (.ret))
def v28 : VFn := ⟨2, 10, [.t 4], b28⟩

theorem c28 : chkFn Try.prog 28 v28 = true := by kernel_rfl

/- scholia/scholiaref08.Join -/
def l29_0 : VCode := .seq (.region false [⟨some 9, .bin .lss (.t 8) (.k (.one (.iv (.int .i64 64)))), [], none⟩])
  (.seq (.cond (.t 9) (.skip) (.exit 0))
  (.seq (.block 1 (.seq (.region false [⟨some 10, .mov none (.t 8), [], none⟩,
    ⟨some 11, .ixV 64 (.t 7) (.t 8), [], none⟩,
    ⟨some 5, .mov none (.t 10), [], none⟩,
    ⟨some 6, .mov none (.t 11), [], none⟩])
  (.seq (.region false [⟨some 12, .mov none (.t 6), [], none⟩,
    ⟨some 13, .mov none (.t 5), [], none⟩,
    ⟨some 14, .ixA 64 1 (.t 2) (.t 13), [], none⟩,
    ⟨some 15, .load false 1 (.t 14), [], none⟩,
    ⟨some 16, .bin .gtr (.t 12) (.t 15), [], none⟩])
  (.cond (.t 16) (.region false [⟨some 17, .mov none (.t 5), [], none⟩,
    ⟨some 18, .mov none (.t 6), [], none⟩,
    ⟨some 19, .ixA 64 1 (.t 2) (.t 17), [], none⟩,
    ⟨none, .store 1 (.t 19) (.t 18), [], none⟩]) (.skip)))))
  (.region false [⟨some 20, .bin .add (.t 8) (.k (.one (.iv (.int .i64 1)))), [], none⟩,
    ⟨some 8, .mov none (.t 20), [], none⟩])))
def b29 : VCode := .seq (.region false [⟨some 2, .box (.t 0), [], none⟩,
    ⟨some 3, .box (.t 1), [], none⟩,
    ⟨some 4, .new [.iv (.arr 64 (List.replicate 64 (.int .i64 0)))], [], none⟩])
  (.seq (.seq (.region false [⟨some 7, .load true 64 (.t 3), [], none⟩,
    ⟨some 8, .mov none (.k (.one (.iv (.int .i64 0)))), [], none⟩])
  (.block 0 (.loop false [2, 4, 7, 8] l29_0)))
  (.seq (.region false [⟨some 21, .load true 64 (.t 2), [], none⟩,
    ⟨none, .store 64 (.t 4) (.t 21), [], none⟩])
  (.ret)))
def v29 : VFn := ⟨2, 22, [.c 4 true 64], b29⟩

theorem c29 : chkFn Try.prog 29 v29 = true := by kernel_rfl

/- scholia/scholiaref08.Within -/
def l31_0 : VCode := .seq (.region false [⟨some 9, .bin .lss (.t 8) (.k (.one (.iv (.int .i64 64)))), [], none⟩])
  (.seq (.cond (.t 9) (.skip) (.exit 0))
  (.seq (.block 1 (.seq (.region false [⟨some 10, .mov none (.t 8), [], none⟩,
    ⟨some 11, .ixV 64 (.t 7) (.t 8), [], none⟩,
    ⟨some 5, .mov none (.t 10), [], none⟩,
    ⟨some 6, .mov none (.t 11), [], none⟩])
  (.seq (.region false [⟨some 12, .mov none (.t 6), [], none⟩,
    ⟨some 13, .mov none (.t 5), [], none⟩,
    ⟨some 14, .ixA 64 1 (.t 3) (.t 13), [], none⟩,
    ⟨some 15, .load false 1 (.t 14), [], none⟩,
    ⟨some 16, .bin .gtr (.t 12) (.t 15), [], none⟩])
  (.cond (.t 16) (.seq (.region false [⟨some 4, .mov none (.k (.one (.iv (.bool false)))), [], none⟩])
  (.ret)) (.skip)))))
  (.region false [⟨some 17, .bin .add (.t 8) (.k (.one (.iv (.int .i64 1)))), [], none⟩,
    ⟨some 8, .mov none (.t 17), [], none⟩])))
def b31 : VCode := .seq (.region false [⟨some 2, .box (.t 0), [], none⟩,
    ⟨some 3, .box (.t 1), [], none⟩,
    ⟨some 4, .mov none (.k (.one (.iv (.bool false)))), [], none⟩])
  (.seq (.seq (.region false [⟨some 7, .load true 64 (.t 2), [], none⟩,
    ⟨some 8, .mov none (.k (.one (.iv (.int .i64 0)))), [], none⟩])
  (.block 0 (.loop false [3, 7, 8] l31_0)))
  (.seq (.region false [⟨some 4, .mov none (.k (.one (.iv (.bool true)))), [], none⟩])
  (.ret)))
def v31 : VFn := ⟨2, 18, [.t 4], b31⟩

theorem c31 : chkFn Try.prog 31 v31 = true := by kernel_rfl

/- scholia/dots.each -/
def l78_0 : VCode := .seq (.region false [⟨some 9, .bin .lss (.t 8) (.k (.one (.iv (.int .i64 64)))), [], none⟩])
  (.seq (.cond (.t 9) (.skip) (.exit 0))
  (.seq (.block 1 (.seq (.region false [⟨some 10, .mov none (.t 8), [], none⟩,
    ⟨some 7, .mov none (.t 10), [], none⟩])
  (.region true [⟨some 11, .mov none (.t 7), [], none⟩,
    ⟨some 12, .mov none (.t 2), [], none⟩,
    ⟨some 13, .mov none (.t 7), [], none⟩,
    ⟨some 14, .ixA 64 1 (.t 3) (.t 13), [2], none⟩,
    ⟨some 15, .load false 1 (.t 14), [3], none⟩,
    ⟨some 16, .mov none (.t 7), [], none⟩,
    ⟨some 17, .ixA 64 1 (.t 4) (.t 16), [5], none⟩,
    ⟨some 18, .load false 1 (.t 17), [6], none⟩,
    ⟨some 19, .callv (.t 12) [(false, .t 15), (false, .t 18)], [7, 4, 1], none⟩,
    ⟨some 20, .ixA 64 1 (.t 3) (.t 11), [8, 0], none⟩,
    ⟨none, .store 1 (.t 20) (.t 19), [9], none⟩])))
  (.region false [⟨some 21, .bin .add (.t 8) (.k (.one (.iv (.int .i64 1)))), [], none⟩,
    ⟨some 8, .mov none (.t 21), [], none⟩])))
def b78 : VCode := .seq (.region false [⟨some 3, .box (.t 0), [], none⟩,
    ⟨some 4, .box (.t 1), [], none⟩,
    ⟨some 6, .new [.iv (.arr 64 (List.replicate 64 (.int .i64 0)))], [], none⟩])
  (.seq (.seq (.region false [⟨some 8, .mov none (.k (.one (.iv (.int .i64 0)))), [], none⟩])
  (.block 0 (.loop false [2, 3, 4, 6, 8] l78_0)))
  (.seq (.region false [⟨some 22, .load true 64 (.t 3), [], none⟩,
    ⟨none, .store 64 (.t 6) (.t 22), [], none⟩])
  (.ret)))
def v78 : VFn := ⟨3, 23, [.c 6 true 64], b78⟩

theorem c78 : chkFn Try.prog 78 v78 = true := by kernel_rfl

/- scholia/dots.Join$1 -/
def b79 : VCode := .seq (.region false [⟨some 4, .mov none (.k (.one (.iv (.int .i64 0)))), [], none⟩])
  (.seq (.region false [⟨some 5, .mov none (.t 0), [], none⟩,
    ⟨some 6, .mov none (.t 1), [], none⟩,
    ⟨some 7, .blt .max [.t 5, .t 6], [], none⟩,
    ⟨some 4, .mov none (.t 7), [], none⟩])
  (.ret))
def v79 : VFn := ⟨2, 8, [.t 4], b79⟩

theorem c79 : chkFn Try.prog 79 v79 = true := by kernel_rfl

def tab : List (Nat × VFn) := [(12, v12), (13, v13), (14, v14), (27, v27), (30, v30), (80, v80), (53, v53), (54, v54), (55, v55), (56, v56), (57, v57), (58, v58), (59, v59), (60, v60), (61, v61), (62, v62), (63, v63), (64, v64), (65, v65), (66, v66), (67, v67), (68, v68), (69, v69), (97, v97), (98, v98), (99, v99), (100, v100), (101, v101), (102, v102), (103, v103), (104, v104), (127, v127), (128, v128), (88, v88), (18, v18), (19, v19), (21, v21), (22, v22), (23, v23), (24, v24), (26, v26), (28, v28), (29, v29), (31, v31), (78, v78), (79, v79)]

theorem tab_ok : TabOK Try.prog (lookT tab) := tabOK_cons c12 (tabOK_cons c13 (tabOK_cons c14 (tabOK_cons c27 (tabOK_cons c30 (tabOK_cons c80 (tabOK_cons c53 (tabOK_cons c54 (tabOK_cons c55 (tabOK_cons c56 (tabOK_cons c57 (tabOK_cons c58 (tabOK_cons c59 (tabOK_cons c60 (tabOK_cons c61 (tabOK_cons c62 (tabOK_cons c63 (tabOK_cons c64 (tabOK_cons c65 (tabOK_cons c66 (tabOK_cons c67 (tabOK_cons c68 (tabOK_cons c69 (tabOK_cons c97 (tabOK_cons c98 (tabOK_cons c99 (tabOK_cons c100 (tabOK_cons c101 (tabOK_cons c102 (tabOK_cons c103 (tabOK_cons c104 (tabOK_cons c127 (tabOK_cons c128 (tabOK_cons c88 (tabOK_cons c18 (tabOK_cons c19 (tabOK_cons c21 (tabOK_cons c22 (tabOK_cons c23 (tabOK_cons c24 (tabOK_cons c26 (tabOK_cons c28 (tabOK_cons c29 (tabOK_cons c31 (tabOK_cons c78 (tabOK_cons c79 tabOK_nil)))))))))))))))))))))))))))))))))))))))))))))

def clones : List (Nat × Nat × Nat) := [(83, 2, 16)]

theorem clones_ok : chkClones Try.prog clones = true := by kernel_rfl

theorem mixed : Try.prog.follows .mixedOrders = true := by kernel_rfl

theorem pr_ok : PrOK Try.prog (fun _ => clonePr clones) := fun _ _ _ => clonePr_ok mixed clones_ok

theorem pr_mono : PrMono (fun _ => clonePr clones) := const_mono

abbrev Pl (f : Nat) (vs : List FV) (v : FV) (bs : List Blk) : Prop := Plays (lookT tab) (fun _ => clonePr clones) f vs [] (v, bs)

end Go.Proofs.Ytomchclmnmhjaaa
