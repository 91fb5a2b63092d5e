/- The code of the functions that a statement reaches, as V-code, checked against the program. Printed by a program. -/
import Derived.Test.YtomchclmnmhjaaaV3
import Derived.Test.YtomchclmnmhjaaaChecked
import Derived.KernelRfl
set_option maxRecDepth 100000
namespace Go.Proofs.Ytomchclmnmhjaaa
open Go GoV

/- scholia/scholialaw08.DotsBack -/
def b9 : VCode := .seq (.region false [⟨some 2, .box (.t 0), [], none⟩,
    ⟨some 4, .mov none (.k (.one (.iv (.bool false)))), [], none⟩])
  (.seq (.seq (.region false [⟨some 6, .load true 64 (.t 2), [], none⟩,
    ⟨some 7, .call 32 [(false, .t 6)], [], none⟩,
    ⟨some 8, .un .not (.t 7), [], none⟩])
  (.cond (.t 8) (.seq (.region false [⟨some 9, .load true 64 (.t 2), [], none⟩,
    ⟨some 10, .call 44 [(false, .k (.one (.iv (.sl true 0 [])))), (false, .t 9)], [], none⟩,
    ⟨some 11, .blt .len [.t 10], [], none⟩,
    ⟨some 12, .bin .eql (.t 11) (.k (.one (.iv (.int .i64 0)))), [], none⟩,
    ⟨some 13, .mov none (.t 12), [], none⟩,
    ⟨some 14, .call 25 [], [], some (13, true)⟩,
    ⟨some 15, .pick (.t 13) (.t 14) (.k (.one (.iv (.bool false)))), [], none⟩,
    ⟨some 4, .mov none (.t 15), [], none⟩])
  (.ret)) (.skip)))
  (.seq (.region false [⟨some 16, .load true 64 (.t 2), [], none⟩,
    ⟨some 17, .call 44 [(false, .k (.one (.iv (.sl true 0 [])))), (false, .t 16)], [], none⟩,
    ⟨some 18, .mov none (.t 1), [], none⟩,
    ⟨some 19, .blt (.append 1 1) [.t 17, .t 18], [], none⟩,
    ⟨some 20, .call 45 [(false, .t 19)], [], none⟩,
    ⟨some 5, .mov none (.t 20), [], none⟩])
  (.seq (.region true [⟨some 21, .mov none (.t 5), [], none⟩,
    ⟨some 22, .call 46 [(false, .t 21)], [0], none⟩,
    ⟨some 23, .load true 64 (.t 2), [], none⟩,
    ⟨some 24, .eqa .eql (List.replicate 64 .int) (.t 22) (.t 23), [2, 1], none⟩,
    ⟨some 25, .mov none (.t 24), [3], none⟩,
    ⟨some 26, .mov none (.t 5), [4], some (25, true)⟩,
    ⟨some 27, .call 47 [(false, .t 26)], [5], some (25, true)⟩,
    ⟨some 28, .bin .eql (.t 27) (.k (.one (.iv (.int .i64 0)))), [6], some (25, true)⟩,
    ⟨some 29, .pick (.t 25) (.t 28) (.k (.one (.iv (.bool false)))), [7], none⟩,
    ⟨some 30, .mov none (.t 29), [8], none⟩,
    ⟨some 31, .mov none (.t 5), [9], some (30, true)⟩,
    ⟨some 32, .call 48 [(false, .t 31)], [10], some (30, true)⟩,
    ⟨some 33, .mov none (.t 1), [9], some (30, true)⟩,
    ⟨some 34, .blt .len [.t 33], [12], some (30, true)⟩,
    ⟨some 35, .bin .eql (.t 32) (.t 34), [13, 11], some (30, true)⟩,
    ⟨some 36, .pick (.t 30) (.t 35) (.k (.one (.iv (.bool false)))), [14], none⟩,
    ⟨some 37, .mov none (.t 36), [15], none⟩,
    ⟨some 38, .call 25 [], [16], some (37, true)⟩,
    ⟨some 39, .pick (.t 37) (.t 38) (.k (.one (.iv (.bool false)))), [17], none⟩,
    ⟨some 4, .mov none (.t 39), [18], none⟩])
  (.ret))))
def v9 : VFn := ⟨2, 40, [.t 4], b9⟩

theorem c9 : chkFn Try.prog 9 v9 = true := by kernel_rfl

/- scholia/scholialaw08.DotsBytes -/
def b10 : VCode := .seq (.region false [⟨some 4, .box (.t 1), [], none⟩,
    ⟨some 6, .mov none (.k (.one (.iv (.bool false)))), [], none⟩])
  (.seq (.region false [⟨some 10, .mov none (.t 0), [], none⟩,
    ⟨some 11, .call 49 [(false, .t 10)], [], none⟩,
    ⟨some 7, .mov none (.t 11), [], none⟩])
  (.seq (.region false [⟨some 12, .mov none (.t 2), [], none⟩,
    ⟨some 13, .call 45 [(false, .t 12)], [], none⟩,
    ⟨some 14, .mov none (.t 2), [], none⟩,
    ⟨some 15, .call 49 [(false, .t 14)], [], none⟩,
    ⟨some 16, .build [.iv (.sl true 0 []), .iv (.int .i64 0)] [(0, 1, .t 15)], [], none⟩,
    ⟨some 17, .box (.t 16), [], none⟩,
    ⟨some 8, .mov none (.t 13), [], none⟩,
    ⟨some 9, .mov none (.t 17), [], none⟩])
  (.seq (.region true [⟨some 18, .mov none (.t 0), [], none⟩,
    ⟨some 19, .load true 64 (.t 4), [], none⟩,
    ⟨some 20, .call 44 [(false, .t 18), (false, .t 19)], [1, 0], none⟩,
    ⟨some 21, .mov none (.t 7), [], none⟩,
    ⟨some 22, .load true 64 (.t 4), [], none⟩,
    ⟨some 23, .call 51 [(false, .t 21), (false, .t 22)], [4, 3, 2], none⟩,
    ⟨some 24, .call 50 [(false, .t 20), (false, .t 23)], [5], none⟩,
    ⟨some 25, .mov none (.t 24), [6], none⟩,
    ⟨some 26, .mov none (.t 0), [7], some (25, true)⟩,
    ⟨some 27, .mov none (.t 7), [7], some (25, true)⟩,
    ⟨some 28, .call 50 [(false, .t 26), (false, .t 27)], [9, 8], some (25, true)⟩,
    ⟨some 29, .pick (.t 25) (.t 28) (.k (.one (.iv (.bool false)))), [10], none⟩,
    ⟨some 30, .mov none (.t 29), [11], none⟩,
    ⟨some 31, .mov none (.t 8), [12], some (30, true)⟩,
    ⟨some 32, .call 46 [(false, .t 31)], [13], some (30, true)⟩,
    ⟨some 33, .mov none (.t 9), [12], some (30, true)⟩,
    ⟨some 34, .call 52 [(false, .t 33)], [15, 14], some (30, true)⟩,
    ⟨some 35, .eqa .eql (List.replicate 64 .int) (.t 32) (.t 34), [16], some (30, true)⟩,
    ⟨some 36, .pick (.t 30) (.t 35) (.k (.one (.iv (.bool false)))), [17], none⟩,
    ⟨some 37, .mov none (.t 36), [18], none⟩,
    ⟨some 38, .mov none (.t 8), [19], some (37, true)⟩,
    ⟨some 39, .call 47 [(false, .t 38)], [20], some (37, true)⟩,
    ⟨some 40, .mov none (.t 9), [19], some (37, true)⟩,
    ⟨some 41, .nilc (.t 40), [22], some (37, true)⟩,
    ⟨some 42, .fad 1 (.t 41), [23], some (37, true)⟩,
    ⟨some 43, .load false 1 (.t 42), [24], some (37, true)⟩,
    ⟨some 44, .bin .eql (.t 39) (.t 43), [25, 21], some (37, true)⟩,
    ⟨some 45, .pick (.t 37) (.t 44) (.k (.one (.iv (.bool false)))), [26], none⟩,
    ⟨some 46, .mov none (.t 45), [27], none⟩,
    ⟨some 47, .mov none (.t 8), [28], some (46, true)⟩,
    ⟨some 48, .call 48 [(false, .t 47)], [29], some (46, true)⟩,
    ⟨some 49, .mov none (.t 9), [28], some (46, true)⟩,
    ⟨some 50, .nilc (.t 49), [31], some (46, true)⟩,
    ⟨some 51, .fad 0 (.t 50), [32], some (46, true)⟩,
    ⟨some 52, .load false 1 (.t 51), [33], some (46, true)⟩,
    ⟨some 53, .blt .len [.t 52], [34], some (46, true)⟩,
    ⟨some 54, .bin .eql (.t 48) (.t 53), [35, 30], some (46, true)⟩,
    ⟨some 55, .pick (.t 46) (.t 54) (.k (.one (.iv (.bool false)))), [36], none⟩,
    ⟨some 56, .mov none (.t 55), [37], none⟩,
    ⟨some 57, .call 25 [], [38], some (56, true)⟩,
    ⟨some 58, .pick (.t 56) (.t 57) (.k (.one (.iv (.bool false)))), [39], none⟩,
    ⟨some 6, .mov none (.t 58), [40], none⟩])
  (.ret))))
def v10 : VFn := ⟨3, 59, [.t 6], b10⟩

theorem c10 : chkFn Try.prog 10 v10 = true := by kernel_rfl

/- scholia/scholialaw13.PastEvents -/
def b15 : VCode := .seq (.region false [⟨some 2, .box (.t 0), [], none⟩,
    ⟨some 4, .mov none (.k (.one (.iv (.bool false)))), [], none⟩])
  (.seq (.seq (.region false [⟨some 8, .load true 8 (.t 2), [], none⟩,
    ⟨some 9, .mks false 8 [.t 8], [], none⟩,
    ⟨some 10, .mks false 1 [.t 9], [], none⟩,
    ⟨some 11, .call 53 [(false, .t 10)], [], none⟩,
    ⟨some 12, .un .not (.t 11), [], none⟩])
  (.cond (.t 12) (.seq (.region false [⟨some 13, .call 54 [], [], none⟩,
    ⟨some 4, .mov none (.t 13), [], none⟩])
  (.ret)) (.skip)))
  (.seq (.region false [⟨some 14, .load true 8 (.t 2), [], none⟩,
    ⟨some 15, .call 70 [(false, .k (.one (.iv (.sl true 0 [])))), (false, .t 14)], [], none⟩,
    ⟨some 5, .mov none (.t 15), [], none⟩])
  (.seq (.seq (.region false [⟨some 16, .mov none (.t 5), [], none⟩,
    ⟨some 17, .blt .len [.t 16], [], none⟩,
    ⟨some 18, .bin .eql (.t 17) (.k (.one (.iv (.int .i64 0)))), [], none⟩])
  (.cond (.t 18) (.seq (.region false [⟨some 19, .call 54 [], [], none⟩,
    ⟨some 4, .mov none (.t 19), [], none⟩])
  (.ret)) (.skip)))
  (.seq (.region false [⟨some 20, .mov none (.t 5), [], none⟩,
    ⟨some 21, .mov none (.t 1), [], none⟩,
    ⟨some 22, .blt (.append 1 1) [.t 20, .t 21], [], none⟩,
    ⟨some 23, .call 45 [(false, .t 22)], [], none⟩,
    ⟨some 6, .mov none (.t 23), [], none⟩])
  (.seq (.region false [⟨some 24, .mov none (.t 6), [], none⟩,
    ⟨some 25, .call 71 [(false, .t 24)], [], none⟩,
    ⟨some 7, .new [.iv (.int .i64 0), .iv (.int .i64 0), .iv (.int .i64 0), .iv (.int .i64 0), .iv (.str ⟨#[]⟩), .iv (.int .i64 0), .iv (.str ⟨#[]⟩), .iv (.sl true 0 [])], [], none⟩,
    ⟨none, .store 8 (.t 7) (.t 25), [], none⟩])
  (.seq (.region false [⟨some 26, .mov none (.t 6), [], none⟩,
    ⟨some 27, .call 47 [(false, .t 26)], [], none⟩,
    ⟨some 28, .bin .eql (.t 27) (.k (.one (.iv (.int .i64 0)))), [], none⟩,
    ⟨some 29, .mov none (.t 28), [], none⟩,
    ⟨some 30, .mov none (.t 6), [], some (29, true)⟩,
    ⟨some 31, .call 48 [(false, .t 30)], [], some (29, true)⟩,
    ⟨some 32, .mov none (.t 1), [], some (29, true)⟩,
    ⟨some 33, .blt .len [.t 32], [], some (29, true)⟩,
    ⟨some 34, .bin .eql (.t 31) (.t 33), [], some (29, true)⟩,
    ⟨some 35, .pick (.t 29) (.t 34) (.k (.one (.iv (.bool false)))), [], none⟩,
    ⟨some 36, .mov none (.t 35), [], none⟩,
    ⟨some 37, .load true 8 (.t 2), [], some (36, true)⟩,
    ⟨some 38, .mks false 8 [.t 37], [], some (36, true)⟩,
    ⟨some 39, .load true 8 (.t 7), [], some (36, true)⟩,
    ⟨some 40, .mks false 8 [.t 39], [], some (36, true)⟩,
    ⟨some 41, .call 69 [(false, .t 38), (false, .t 40)], [], some (36, true)⟩,
    ⟨some 42, .pick (.t 36) (.t 41) (.k (.one (.iv (.bool false)))), [], none⟩,
    ⟨some 43, .mov none (.t 42), [], none⟩,
    ⟨some 44, .call 54 [], [], some (43, true)⟩,
    ⟨some 45, .pick (.t 43) (.t 44) (.k (.one (.iv (.bool false)))), [], none⟩,
    ⟨some 4, .mov none (.t 45), [], none⟩])
  (.ret)))))))
def v15 : VFn := ⟨2, 46, [.t 4], b15⟩

theorem c15 : chkFn Try.prog 15 v15 = true := by kernel_rfl

/- scholia/scholialaw13.PastLists -/
def b16 : VCode := .seq (.region false [⟨some 8, .mov none (.k (.one (.iv (.bool false)))), [], none⟩])
  (.seq (.seq (.region false [⟨some 12, .mov none (.t 1), [], none⟩,
    ⟨some 13, .mks false 1 [.t 12], [], none⟩,
    ⟨some 14, .call 53 [(false, .t 13)], [], none⟩,
    ⟨some 15, .un .not (.t 14), [], none⟩,
    ⟨some 16, .mov none (.t 15), [], none⟩,
    ⟨some 17, .mov none (.t 2), [], some (16, false)⟩,
    ⟨some 18, .blt .len [.t 17], [], some (16, false)⟩,
    ⟨some 19, .bin .gtr (.t 18) (.k (.one (.iv (.int .i64 4096)))), [], some (16, false)⟩,
    ⟨some 20, .pick (.t 16) (.k (.one (.iv (.bool true)))) (.t 19), [], none⟩])
  (.cond (.t 20) (.seq (.region false [⟨some 21, .call 54 [], [], none⟩,
    ⟨some 8, .mov none (.t 21), [], none⟩])
  (.ret)) (.skip)))
  (.seq (.region false [⟨some 22, .mov none (.t 0), [], none⟩,
    ⟨some 23, .call 49 [(false, .t 22)], [], none⟩,
    ⟨some 9, .mov none (.t 23), [], none⟩])
  (.seq (.region false [⟨some 24, .mov none (.t 2), [], none⟩,
    ⟨some 25, .call 45 [(false, .t 24)], [], none⟩,
    ⟨some 26, .mov none (.t 2), [], none⟩,
    ⟨some 27, .call 49 [(false, .t 26)], [], none⟩,
    ⟨some 28, .build [.iv (.sl true 0 []), .iv (.int .i64 0)] [(0, 1, .t 27)], [], none⟩,
    ⟨some 29, .box (.t 28), [], none⟩,
    ⟨some 10, .mov none (.t 25), [], none⟩,
    ⟨some 11, .mov none (.t 29), [], none⟩])
  (.seq (.region true [⟨some 30, .mov none (.t 0), [], none⟩,
    ⟨some 31, .mov none (.t 1), [], none⟩,
    ⟨some 32, .call 72 [(false, .t 30), (false, .t 31)], [1, 0], none⟩,
    ⟨some 33, .mov none (.t 9), [], none⟩,
    ⟨some 34, .mov none (.t 1), [], none⟩,
    ⟨some 35, .call 73 [(false, .t 33), (false, .t 34)], [4, 3, 2], none⟩,
    ⟨some 36, .call 50 [(false, .t 32), (false, .t 35)], [5], none⟩,
    ⟨some 37, .mov none (.t 36), [6], none⟩,
    ⟨some 38, .mov none (.t 0), [7], some (37, true)⟩,
    ⟨some 39, .mov none (.t 9), [7], some (37, true)⟩,
    ⟨some 40, .call 50 [(false, .t 38), (false, .t 39)], [9, 8], some (37, true)⟩,
    ⟨some 41, .pick (.t 37) (.t 40) (.k (.one (.iv (.bool false)))), [10], none⟩,
    ⟨some 42, .mov none (.t 41), [11], none⟩,
    ⟨some 43, .mov none (.t 10), [12], some (42, true)⟩,
    ⟨some 44, .mov none (.t 3), [12], some (42, true)⟩,
    ⟨some 45, .call 74 [(false, .t 43), (false, .t 44)], [14, 13], some (42, true)⟩,
    ⟨some 46, .mov none (.t 11), [12], some (42, true)⟩,
    ⟨some 47, .mov none (.t 3), [12], some (42, true)⟩,
    ⟨some 48, .call 75 [(false, .t 46), (false, .t 47)], [17, 16, 15], some (42, true)⟩,
    ⟨some 49, .call 65 [(false, .t 45), (false, .t 48)], [18], some (42, true)⟩,
    ⟨some 50, .pick (.t 42) (.t 49) (.k (.one (.iv (.bool false)))), [19], none⟩,
    ⟨some 51, .mov none (.t 50), [20], none⟩,
    ⟨some 52, .mov none (.t 10), [21], some (51, true)⟩,
    ⟨some 53, .call 47 [(false, .t 52)], [22], some (51, true)⟩,
    ⟨some 54, .mov none (.t 11), [21], some (51, true)⟩,
    ⟨some 55, .nilc (.t 54), [24], some (51, true)⟩,
    ⟨some 56, .fad 1 (.t 55), [25], some (51, true)⟩,
    ⟨some 57, .load false 1 (.t 56), [26], some (51, true)⟩,
    ⟨some 58, .bin .eql (.t 53) (.t 57), [27, 23], some (51, true)⟩,
    ⟨some 59, .pick (.t 51) (.t 58) (.k (.one (.iv (.bool false)))), [28], none⟩,
    ⟨some 60, .mov none (.t 59), [29], none⟩,
    ⟨some 61, .mov none (.t 10), [30], some (60, true)⟩,
    ⟨some 62, .call 48 [(false, .t 61)], [31], some (60, true)⟩,
    ⟨some 63, .mov none (.t 11), [30], some (60, true)⟩,
    ⟨some 64, .nilc (.t 63), [33], some (60, true)⟩,
    ⟨some 65, .fad 0 (.t 64), [34], some (60, true)⟩,
    ⟨some 66, .load false 1 (.t 65), [35], some (60, true)⟩,
    ⟨some 67, .blt .len [.t 66], [36], some (60, true)⟩,
    ⟨some 68, .bin .eql (.t 62) (.t 67), [37, 32], some (60, true)⟩,
    ⟨some 69, .pick (.t 60) (.t 68) (.k (.one (.iv (.bool false)))), [38], none⟩,
    ⟨some 70, .mov none (.t 69), [39], none⟩,
    ⟨some 71, .call 54 [], [40], some (70, true)⟩,
    ⟨some 72, .pick (.t 70) (.t 71) (.k (.one (.iv (.bool false)))), [41], none⟩,
    ⟨some 8, .mov none (.t 72), [42], none⟩])
  (.ret)))))
def v16 : VFn := ⟨4, 73, [.t 8], b16⟩

theorem c16 : chkFn Try.prog 16 v16 = true := by kernel_rfl

/- scholia/dots.Compare -/
def b17 : VCode := .seq (.region false [⟨some 2, .box (.t 0), [], none⟩,
    ⟨some 3, .box (.t 1), [], none⟩,
    ⟨some 4, .mov none (.k (.one (.iv (.int .i64 0)))), [], none⟩])
  (.seq (.region true [⟨some 5, .fad 0 (.t 2), [], none⟩,
    ⟨some 6, .load false 1 (.t 5), [0], none⟩,
    ⟨some 7, .fad 0 (.t 3), [], none⟩,
    ⟨some 8, .load false 1 (.t 7), [2], none⟩,
    ⟨some 9, .call 77 [(false, .t 6), (false, .t 8)], [3, 1], none⟩,
    ⟨some 10, .fad 1 (.t 2), [], none⟩,
    ⟨some 11, .load false 1 (.t 10), [5], none⟩,
    ⟨some 12, .fad 1 (.t 3), [], none⟩,
    ⟨some 13, .load false 1 (.t 12), [7], none⟩,
    ⟨some 14, .call 77 [(false, .t 11), (false, .t 13)], [8, 6, 4], none⟩,
    ⟨some 15, .mks false 1 [.t 9, .t 14], [9], none⟩,
    ⟨some 16, .call 76 [(false, .t 15)], [10], none⟩,
    ⟨some 4, .mov none (.t 16), [11], none⟩])
  (.ret))
def v17 : VFn := ⟨2, 17, [.t 4], b17⟩

theorem c17 : chkFn Try.prog 17 v17 = true := by kernel_rfl

/- scholia/dots.Valid -/
def b18 : VCode := .seq (.region false [⟨some 1, .box (.t 0), [], none⟩,
    ⟨some 2, .mov none (.k (.one (.iv (.bool false)))), [], none⟩])
  (.seq (.region false [⟨some 3, .fad 0 (.t 1), [], none⟩,
    ⟨some 4, .load false 1 (.t 3), [], none⟩,
    ⟨some 5, .bin .geq (.t 4) (.k (.one (.iv (.int .i64 0)))), [], none⟩,
    ⟨some 6, .mov none (.t 5), [], none⟩,
    ⟨some 7, .fad 0 (.t 1), [], some (6, true)⟩,
    ⟨some 8, .load false 1 (.t 7), [], some (6, true)⟩,
    ⟨some 9, .bin .lss (.t 8) (.k (.one (.iv (.int .i64 64)))), [], some (6, true)⟩,
    ⟨some 10, .pick (.t 6) (.t 9) (.k (.one (.iv (.bool false)))), [], none⟩,
    ⟨some 11, .mov none (.t 10), [], none⟩,
    ⟨some 12, .fad 1 (.t 1), [], some (11, true)⟩,
    ⟨some 13, .load false 1 (.t 12), [], some (11, true)⟩,
    ⟨some 14, .bin .geq (.t 13) (.k (.one (.iv (.int .i64 1)))), [], some (11, true)⟩,
    ⟨some 15, .pick (.t 11) (.t 14) (.k (.one (.iv (.bool false)))), [], none⟩,
    ⟨some 16, .mov none (.t 15), [], none⟩,
    ⟨some 17, .fad 1 (.t 1), [], some (16, true)⟩,
    ⟨some 18, .load false 1 (.t 17), [], some (16, true)⟩,
    ⟨some 19, .bin .leq (.t 18) (.k (.one (.iv (.int .i64 1073741824)))), [], some (16, true)⟩,
    ⟨some 20, .pick (.t 16) (.t 19) (.k (.one (.iv (.bool false)))), [], none⟩,
    ⟨some 2, .mov none (.t 20), [], none⟩])
  (.ret))
def v18 : VFn := ⟨1, 21, [.t 2], b18⟩

theorem c18 : chkFn Try.prog 18 v18 = true := by kernel_rfl

/- scholia/scholiaref08.Valid -/
def b19 : VCode := .seq (.region false [⟨some 1, .box (.t 0), [], none⟩,
    ⟨some 2, .mov none (.k (.one (.iv (.bool false)))), [], none⟩])
  (.seq (.region false [⟨some 3, .fad 0 (.t 1), [], none⟩,
    ⟨some 4, .load false 1 (.t 3), [], none⟩,
    ⟨some 5, .bin .geq (.t 4) (.k (.one (.iv (.int .i64 0)))), [], none⟩,
    ⟨some 6, .mov none (.t 5), [], none⟩,
    ⟨some 7, .fad 0 (.t 1), [], some (6, true)⟩,
    ⟨some 8, .load false 1 (.t 7), [], some (6, true)⟩,
    ⟨some 9, .bin .leq (.t 8) (.k (.one (.iv (.int .i64 63)))), [], some (6, true)⟩,
    ⟨some 10, .pick (.t 6) (.t 9) (.k (.one (.iv (.bool false)))), [], none⟩,
    ⟨some 11, .mov none (.t 10), [], none⟩,
    ⟨some 12, .fad 1 (.t 1), [], some (11, true)⟩,
    ⟨some 13, .load false 1 (.t 12), [], some (11, true)⟩,
    ⟨some 14, .bin .geq (.t 13) (.k (.one (.iv (.int .i64 1)))), [], some (11, true)⟩,
    ⟨some 15, .pick (.t 11) (.t 14) (.k (.one (.iv (.bool false)))), [], none⟩,
    ⟨some 16, .mov none (.t 15), [], none⟩,
    ⟨some 17, .fad 1 (.t 1), [], some (16, true)⟩,
    ⟨some 18, .load false 1 (.t 17), [], some (16, true)⟩,
    ⟨some 19, .bin .leq (.t 18) (.k (.one (.iv (.int .i64 1073741824)))), [], some (16, true)⟩,
    ⟨some 20, .pick (.t 16) (.t 19) (.k (.one (.iv (.bool false)))), [], none⟩,
    ⟨some 2, .mov none (.t 20), [], none⟩])
  (.ret))
def v19 : VFn := ⟨1, 21, [.t 2], b19⟩

theorem c19 : chkFn Try.prog 19 v19 = true := by kernel_rfl

/- scholia/scholiaref08.Less -/
def b20 : VCode := .seq (.region false [⟨some 2, .box (.t 0), [], none⟩,
    ⟨some 3, .box (.t 1), [], none⟩,
    ⟨some 4, .mov none (.k (.one (.iv (.bool false)))), [], none⟩])
  (.seq (.region false [⟨some 5, .fad 0 (.t 2), [], none⟩,
    ⟨some 6, .load false 1 (.t 5), [], none⟩,
    ⟨some 7, .fad 0 (.t 3), [], none⟩,
    ⟨some 8, .load false 1 (.t 7), [], none⟩,
    ⟨some 9, .bin .lss (.t 6) (.t 8), [], none⟩,
    ⟨some 10, .mov none (.t 9), [], none⟩,
    ⟨some 11, .fad 0 (.t 2), [], some (10, false)⟩,
    ⟨some 12, .load false 1 (.t 11), [], some (10, false)⟩,
    ⟨some 13, .fad 0 (.t 3), [], some (10, false)⟩,
    ⟨some 14, .load false 1 (.t 13), [], some (10, false)⟩,
    ⟨some 15, .bin .eql (.t 12) (.t 14), [], some (10, false)⟩,
    ⟨some 16, .mov none (.t 15), [], some (10, false)⟩,
    ⟨some 17, .fad 1 (.t 2), [], some (16, true)⟩,
    ⟨some 18, .load false 1 (.t 17), [], some (16, true)⟩,
    ⟨some 19, .fad 1 (.t 3), [], some (16, true)⟩,
    ⟨some 20, .load false 1 (.t 19), [], some (16, true)⟩,
    ⟨some 21, .bin .lss (.t 18) (.t 20), [], some (16, true)⟩,
    ⟨some 22, .pick (.t 16) (.t 21) (.k (.one (.iv (.bool false)))), [], some (10, false)⟩,
    ⟨some 23, .pick (.t 10) (.k (.one (.iv (.bool true)))) (.t 22), [], none⟩,
    ⟨some 4, .mov none (.t 23), [], none⟩])
  (.ret))
def v20 : VFn := ⟨2, 24, [.t 4], b20⟩

theorem c20 : chkFn Try.prog 20 v20 = true := by kernel_rfl

/- scholia/dots.With -/
def b23 : VCode := .seq (.region false [⟨some 2, .box (.t 0), [], none⟩,
    ⟨some 3, .box (.t 1), [], none⟩,
    ⟨some 4, .new [.iv (.arr 64 (List.replicate 64 (.int .i64 0)))], [], none⟩])
  (.seq (.seq (.region false [⟨some 5, .load true 2 (.t 3), [], none⟩,
    ⟨some 6, .call 18 [(false, .t 5)], [], none⟩])
  (.cond (.t 6) (.region true [⟨some 7, .fad 0 (.t 3), [], none⟩,
    ⟨some 8, .load false 1 (.t 7), [0], none⟩,
    ⟨some 9, .fad 0 (.t 3), [], none⟩,
    ⟨some 10, .load false 1 (.t 9), [2], none⟩,
    ⟨some 11, .ixA 64 1 (.t 2) (.t 10), [3], none⟩,
    ⟨some 12, .load false 1 (.t 11), [4], none⟩,
    ⟨some 13, .fad 1 (.t 3), [], none⟩,
    ⟨some 14, .load false 1 (.t 13), [6], none⟩,
    ⟨some 15, .blt .max [.t 12, .t 14], [7, 5], none⟩,
    ⟨some 16, .ixA 64 1 (.t 2) (.t 8), [8, 1], none⟩,
    ⟨none, .store 1 (.t 16) (.t 15), [9], none⟩]) (.skip)))
  (.seq (.region false [⟨some 17, .load true 64 (.t 2), [], none⟩,
    ⟨none, .store 64 (.t 4) (.t 17), [], none⟩])
  (.ret)))
def v23 : VFn := ⟨2, 18, [.c 4 true 64], b23⟩

theorem c23 : chkFn Try.prog 23 v23 = true := by kernel_rfl

/- scholia/scholialaw08.awake -/
def b25 : VCode := .seq (.region false [⟨some 0, .mov none (.k (.one (.iv (.bool false)))), [], none⟩])
  (.seq (.region false [⟨some 2, .build [.iv (.int .i64 0), .iv (.int .i64 0), .iv (.int .i64 0), .iv (.int .i64 0), .iv (.int .i64 0), .iv (.int .i64 0), .iv (.int .i64 0), .iv (.int .i64 0), .iv (.int .i64 0), .iv (.int .i64 0), .iv (.int .i64 0), .iv (.int .i64 0), .iv (.int .i64 0), .iv (.int .i64 0), .iv (.int .i64 0), .iv (.int .i64 0), .iv (.int .i64 0), .iv (.int .i64 0), .iv (.int .i64 0), .iv (.int .i64 0), .iv (.int .i64 0), .iv (.int .i64 0), .iv (.int .i64 0), .iv (.int .i64 0), .iv (.int .i64 0), .iv (.int .i64 0), .iv (.int .i64 0), .iv (.int .i64 0), .iv (.int .i64 0), .iv (.int .i64 0), .iv (.int .i64 0), .iv (.int .i64 0), .iv (.int .i64 0), .iv (.int .i64 0), .iv (.int .i64 0), .iv (.int .i64 0), .iv (.int .i64 0), .iv (.int .i64 0), .iv (.int .i64 0), .iv (.int .i64 0), .iv (.int .i64 0), .iv (.int .i64 0), .iv (.int .i64 0), .iv (.int .i64 0), .iv (.int .i64 0), .iv (.int .i64 0), .iv (.int .i64 0), .iv (.int .i64 0), .iv (.int .i64 0), .iv (.int .i64 0), .iv (.int .i64 0), .iv (.int .i64 0), .iv (.int .i64 0), .iv (.int .i64 0), .iv (.int .i64 0), .iv (.int .i64 0), .iv (.int .i64 0), .iv (.int .i64 0), .iv (.int .i64 0), .iv (.int .i64 0), .iv (.int .i64 0), .iv (.int .i64 0), .iv (.int .i64 0), .iv (.int .i64 0)] [(0, 1, .k (.one (.iv (.int .i64 2))))], [], none⟩,
    ⟨some 3, .build [.iv (.int .i64 0), .iv (.int .i64 0)] [(0, 1, .k (.one (.iv (.int .i64 0)))), (1, 1, .k (.one (.iv (.int .i64 4))))], [], none⟩,
    ⟨some 4, .build [.iv (.int .i64 0), .iv (.int .i64 0)] [(0, 1, .k (.one (.iv (.int .i64 0)))), (1, 1, .k (.one (.iv (.int .i64 3))))], [], none⟩,
    ⟨some 5, .build [.iv (.int .i64 0), .iv (.int .i64 0)] [(0, 1, .k (.one (.iv (.int .i64 0)))), (1, 1, .k (.one (.iv (.int .i64 6))))], [], none⟩,
    ⟨some 6, .mks false 2 [.t 3, .t 4, .t 5], [], none⟩,
    ⟨some 7, .build [.iv (.int .i64 0), .iv (.int .i64 0), .iv (.int .i64 0), .iv (.int .i64 0), .iv (.int .i64 0), .iv (.int .i64 0), .iv (.int .i64 0), .iv (.int .i64 0), .iv (.int .i64 0), .iv (.int .i64 0), .iv (.int .i64 0), .iv (.int .i64 0), .iv (.int .i64 0), .iv (.int .i64 0), .iv (.int .i64 0), .iv (.int .i64 0), .iv (.int .i64 0), .iv (.int .i64 0), .iv (.int .i64 0), .iv (.int .i64 0), .iv (.int .i64 0), .iv (.int .i64 0), .iv (.int .i64 0), .iv (.int .i64 0), .iv (.int .i64 0), .iv (.int .i64 0), .iv (.int .i64 0), .iv (.int .i64 0), .iv (.int .i64 0), .iv (.int .i64 0), .iv (.int .i64 0), .iv (.int .i64 0), .iv (.int .i64 0), .iv (.int .i64 0), .iv (.int .i64 0), .iv (.int .i64 0), .iv (.int .i64 0), .iv (.int .i64 0), .iv (.int .i64 0), .iv (.int .i64 0), .iv (.int .i64 0), .iv (.int .i64 0), .iv (.int .i64 0), .iv (.int .i64 0), .iv (.int .i64 0), .iv (.int .i64 0), .iv (.int .i64 0), .iv (.int .i64 0), .iv (.int .i64 0), .iv (.int .i64 0), .iv (.int .i64 0), .iv (.int .i64 0), .iv (.int .i64 0), .iv (.int .i64 0), .iv (.int .i64 0), .iv (.int .i64 0), .iv (.int .i64 0), .iv (.int .i64 0), .iv (.int .i64 0), .iv (.int .i64 0), .iv (.int .i64 0), .iv (.int .i64 0), .iv (.int .i64 0), .iv (.int .i64 0), .iv (.sl true 0 [])] [(0, 64, .t 2), (64, 1, .t 6)], [], none⟩,
    ⟨some 8, .call 34 [(false, .t 7)], [], none⟩,
    ⟨some 1, .new [.iv (.arr 64 (List.replicate 64 (.int .i64 0))), .iv (.sl true 0 [])], [], none⟩,
    ⟨none, .store 65 (.t 1) (.t 8), [], none⟩])
  (.seq (.region false [⟨some 9, .fad 0 (.t 1), [], none⟩,
    ⟨some 10, .ixA 64 1 (.t 9) (.k (.one (.iv (.int .i64 0)))), [], none⟩,
    ⟨some 11, .load false 1 (.t 10), [], none⟩,
    ⟨some 12, .bin .eql (.t 11) (.k (.one (.iv (.int .i64 4)))), [], none⟩,
    ⟨some 13, .mov none (.t 12), [], none⟩,
    ⟨some 14, .fad 64 (.t 1), [], some (13, true)⟩,
    ⟨some 15, .load false 1 (.t 14), [], some (13, true)⟩,
    ⟨some 16, .blt .len [.t 15], [], some (13, true)⟩,
    ⟨some 17, .bin .eql (.t 16) (.k (.one (.iv (.int .i64 1)))), [], some (13, true)⟩,
    ⟨some 18, .pick (.t 13) (.t 17) (.k (.one (.iv (.bool false)))), [], none⟩,
    ⟨some 19, .mov none (.t 18), [], none⟩,
    ⟨some 20, .fad 64 (.t 1), [], some (19, true)⟩,
    ⟨some 21, .load false 1 (.t 20), [], some (19, true)⟩,
    ⟨some 22, .ixS 2 (.t 21) (.k (.one (.iv (.int .i64 0)))), [], some (19, true)⟩,
    ⟨some 23, .fad 1 (.t 22), [], some (19, true)⟩,
    ⟨some 24, .load false 1 (.t 23), [], some (19, true)⟩,
    ⟨some 25, .bin .eql (.t 24) (.k (.one (.iv (.int .i64 6)))), [], some (19, true)⟩,
    ⟨some 26, .pick (.t 19) (.t 25) (.k (.one (.iv (.bool false)))), [], none⟩,
    ⟨some 0, .mov none (.t 26), [], none⟩])
  (.ret)))
def v25 : VFn := ⟨0, 27, [.t 0], b25⟩

theorem c25 : chkFn Try.prog 25 v25 = true := by kernel_rfl

/- scholia/dots.Good -/
def b32 : VCode := .seq (.region false [⟨some 1, .box (.t 0), [], none⟩,
    ⟨some 2, .mov none (.k (.one (.iv (.bool false)))), [], none⟩])
  (.seq (.region false [⟨some 3, .load true 64 (.t 1), [], none⟩,
    ⟨some 4, .call 81 [(false, .t 3)], [], none⟩,
    ⟨some 2, .mov none (.t 4), [], none⟩])
  (.ret))
def v32 : VFn := ⟨1, 5, [.t 2], b32⟩

theorem c32 : chkFn Try.prog 32 v32 = true := by kernel_rfl

/- scholia/scholiaref08.Good -/
def l33_0 : VCode := .seq (.region false [⟨some 7, .bin .lss (.t 6) (.k (.one (.iv (.int .i64 64)))), [], none⟩])
  (.seq (.cond (.t 7) (.skip) (.exit 0))
  (.seq (.block 1 (.seq (.region false [⟨some 8, .ixV 64 (.t 5) (.t 6), [], none⟩,
    ⟨some 4, .mov none (.t 8), [], none⟩])
  (.seq (.region false [⟨some 9, .mov none (.t 4), [], none⟩,
    ⟨some 10, .bin .lss (.t 9) (.k (.one (.iv (.int .i64 0)))), [], none⟩,
    ⟨some 11, .mov none (.t 10), [], none⟩,
    ⟨some 12, .mov none (.t 4), [], some (11, false)⟩,
    ⟨some 13, .bin .gtr (.t 12) (.k (.one (.iv (.int .i64 1073741824)))), [], some (11, false)⟩,
    ⟨some 14, .pick (.t 11) (.k (.one (.iv (.bool true)))) (.t 13), [], none⟩])
  (.cond (.t 14) (.seq (.region false [⟨some 2, .mov none (.k (.one (.iv (.bool false)))), [], none⟩])
  (.ret)) (.skip)))))
  (.region false [⟨some 15, .bin .add (.t 6) (.k (.one (.iv (.int .i64 1)))), [], none⟩,
    ⟨some 6, .mov none (.t 15), [], none⟩])))
def b33 : VCode := .seq (.region false [⟨some 1, .box (.t 0), [], none⟩,
    ⟨some 2, .mov none (.k (.one (.iv (.bool false)))), [], none⟩])
  (.seq (.seq (.region false [⟨some 5, .load true 64 (.t 1), [], none⟩,
    ⟨some 6, .mov none (.k (.one (.iv (.int .i64 0)))), [], none⟩])
  (.block 0 (.loop false [5, 6] l33_0)))
  (.seq (.region false [⟨some 2, .mov none (.k (.one (.iv (.bool true)))), [], none⟩])
  (.ret)))
def v33 : VFn := ⟨1, 16, [.t 2], b33⟩

theorem c33 : chkFn Try.prog 33 v33 = true := by kernel_rfl

/- scholia/dots.Tidy -/
def l34_0 : VCode := .seq (.region false [⟨some 13, .bin .lss (.t 12) (.k (.one (.iv (.int .i64 64)))), [], none⟩])
  (.seq (.cond (.t 13) (.skip) (.exit 0))
  (.seq (.block 1 (.seq (.region false [⟨some 14, .mov none (.t 12), [], none⟩,
    ⟨some 15, .ixV 64 (.t 11) (.t 12), [], none⟩,
    ⟨some 4, .mov none (.t 14), [], none⟩,
    ⟨some 5, .mov none (.t 15), [], none⟩])
  (.region false [⟨some 16, .mov none (.t 4), [], none⟩,
    ⟨some 17, .mov none (.t 5), [], none⟩,
    ⟨some 18, .blt .max [.t 17, .k (.one (.iv (.int .i64 0)))], [], none⟩,
    ⟨some 19, .blt .min [.t 18, .k (.one (.iv (.int .i64 1073741824)))], [], none⟩,
    ⟨some 20, .fad 0 (.t 3), [], none⟩,
    ⟨some 21, .ixA 64 1 (.t 20) (.t 16), [], none⟩,
    ⟨none, .store 1 (.t 21) (.t 19), [], none⟩])))
  (.region false [⟨some 22, .bin .add (.t 12) (.k (.one (.iv (.int .i64 1)))), [], none⟩,
    ⟨some 12, .mov none (.t 22), [], none⟩])))
def l34_1 : VCode := .seq (.region false [⟨some 32, .bin .lss (.t 31) (.t 30), [], none⟩])
  (.seq (.cond (.t 32) (.skip) (.exit 2))
  (.seq (.block 3 (.seq (.region false [⟨some 33, .ixS 2 (.t 29) (.t 31), [], none⟩,
    ⟨some 34, .load true 2 (.t 33), [], none⟩,
    ⟨some 8, .new [.iv (.int .i64 0), .iv (.int .i64 0)], [], none⟩,
    ⟨none, .store 2 (.t 8) (.t 34), [], none⟩])
  (.seq (.region false [⟨some 35, .fad 0 (.t 8), [], none⟩,
    ⟨some 36, .load false 1 (.t 35), [], none⟩,
    ⟨some 37, .fad 0 (.t 3), [], none⟩,
    ⟨some 38, .ixA 64 1 (.t 37) (.t 36), [], none⟩,
    ⟨some 39, .load false 1 (.t 38), [], none⟩,
    ⟨some 9, .mov none (.t 39), [], none⟩])
  (.block 4 (.seq (.region false [⟨some 41, .fad 1 (.t 8), [], none⟩,
    ⟨some 42, .load false 1 (.t 41), [], none⟩,
    ⟨some 43, .mov none (.t 9), [], none⟩,
    ⟨some 44, .bin .add (.t 43) (.k (.one (.iv (.int .i64 1)))), [], none⟩,
    ⟨some 45, .bin .eql (.t 42) (.t 44), [], none⟩,
    ⟨some 40, .mov none (.t 45), [], none⟩])
  (.cond (.t 40) (.region false [⟨some 46, .fad 0 (.t 8), [], none⟩,
    ⟨some 47, .load false 1 (.t 46), [], none⟩,
    ⟨some 48, .fad 1 (.t 8), [], none⟩,
    ⟨some 49, .load false 1 (.t 48), [], none⟩,
    ⟨some 50, .fad 0 (.t 3), [], none⟩,
    ⟨some 51, .ixA 64 1 (.t 50) (.t 47), [], none⟩,
    ⟨none, .store 1 (.t 51) (.t 49), [], none⟩]) (.seq (.region true [⟨some 53, .fad 1 (.t 8), [], none⟩,
    ⟨some 54, .load false 1 (.t 53), [0], none⟩,
    ⟨some 55, .mov none (.t 9), [], none⟩,
    ⟨some 56, .bin .add (.t 55) (.k (.one (.iv (.int .i64 1)))), [2], none⟩,
    ⟨some 57, .bin .gtr (.t 54) (.t 56), [3, 1], none⟩,
    ⟨some 58, .mov none (.t 57), [4], none⟩,
    ⟨some 59, .fad 64 (.t 3), [5], some (58, true)⟩,
    ⟨some 60, .load false 1 (.t 59), [6], some (58, true)⟩,
    ⟨some 61, .blt .len [.t 60], [7], some (58, true)⟩,
    ⟨some 62, .bin .eql (.t 61) (.k (.one (.iv (.int .i64 0)))), [8], some (58, true)⟩,
    ⟨some 63, .mov none (.t 62), [9], some (58, true)⟩,
    ⟨some 64, .fad 64 (.t 3), [10], some (63, false)⟩,
    ⟨some 65, .load false 1 (.t 64), [11], some (63, false)⟩,
    ⟨some 66, .fad 64 (.t 3), [10], some (63, false)⟩,
    ⟨some 67, .load false 1 (.t 66), [13], some (63, false)⟩,
    ⟨some 68, .blt .len [.t 67], [14], some (63, false)⟩,
    ⟨some 69, .bin .sub (.t 68) (.k (.one (.iv (.int .i64 1)))), [15], some (63, false)⟩,
    ⟨some 70, .ixS 2 (.t 65) (.t 69), [16, 12], some (63, false)⟩,
    ⟨some 71, .load true 2 (.t 70), [17], some (63, false)⟩,
    ⟨some 72, .load true 2 (.t 8), [10], some (63, false)⟩,
    ⟨some 73, .eqa .neq ([.int] ++ [.int]) (.t 71) (.t 72), [19, 18], some (63, false)⟩,
    ⟨some 74, .pick (.t 63) (.k (.one (.iv (.bool true)))) (.t 73), [20], some (58, true)⟩,
    ⟨some 75, .pick (.t 58) (.t 74) (.k (.one (.iv (.bool false)))), [21], none⟩,
    ⟨some 52, .mov none (.t 75), [22], none⟩])
  (.cond (.t 52) (.region false [⟨some 76, .fad 64 (.t 3), [], none⟩,
    ⟨some 77, .load false 1 (.t 76), [], none⟩,
    ⟨some 78, .load true 2 (.t 8), [], none⟩,
    ⟨some 79, .mks false 2 [.t 78], [], none⟩,
    ⟨some 80, .blt (.append 2 16) [.t 77, .t 79], [], none⟩,
    ⟨some 81, .fad 64 (.t 3), [], none⟩,
    ⟨none, .store 1 (.t 81) (.t 80), [], none⟩]) (.skip)))))))))
  (.region false [⟨some 82, .bin .add (.t 31) (.k (.one (.iv (.int .i64 1)))), [], none⟩,
    ⟨some 31, .mov none (.t 82), [], none⟩])))
def b34 : VCode := .seq (.region false [⟨some 1, .box (.t 0), [], none⟩,
    ⟨some 2, .new [.iv (.arr 64 (List.replicate 64 (.int .i64 0))), .iv (.sl true 0 [])], [], none⟩])
  (.seq (.region false [⟨some 3, .new [.iv (.arr 64 (List.replicate 64 (.int .i64 0))), .fresh 2], [], none⟩])
  (.seq (.seq (.region false [⟨some 10, .fad 0 (.t 1), [], none⟩,
    ⟨some 11, .load true 64 (.t 10), [], none⟩,
    ⟨some 12, .mov none (.k (.one (.iv (.int .i64 0)))), [], none⟩])
  (.block 0 (.loop false [1, 2, 3, 11, 12] l34_0)))
  (.seq (.region false [⟨some 23, .fad 64 (.t 1), [], none⟩,
    ⟨some 24, .load false 1 (.t 23), [], none⟩,
    ⟨some 25, .call 83 [(false, .t 24)], [], none⟩,
    ⟨some 26, .call 82 [(true, .t 25), (false, .k (.one (.iv (.fn 84))))], [], none⟩,
    ⟨some 6, .mov none (.t 26), [], none⟩])
  (.seq (.region false [⟨some 27, .mov none (.t 6), [], none⟩,
    ⟨some 28, .call 85 [(true, .t 27), (false, .k (.one (.iv (.fn 17))))], [], none⟩])
  (.seq (.seq (.region false [⟨some 29, .mov none (.t 6), [], none⟩,
    ⟨some 30, .blt .len [.t 29], [], none⟩,
    ⟨some 31, .mov none (.k (.one (.iv (.int .i64 0)))), [], none⟩])
  (.block 2 (.loop false [2, 3, 29, 30, 31] l34_1)))
  (.seq (.region false [⟨some 83, .load true 65 (.t 3), [], none⟩,
    ⟨none, .store 65 (.t 2) (.t 83), [], none⟩])
  (.ret)))))))
def v34 : VFn := ⟨1, 84, [.c 2 true 65], b34⟩

theorem c34 : chkFn Try.prog 34 v34 = true := by kernel_rfl

/- scholia/dots.Put -/
def l44_0 : VCode := .seq (.region false [⟨some 19, .bin .lss (.t 18) (.k (.one (.iv (.int .i64 64)))), [], none⟩])
  (.seq (.cond (.t 19) (.skip) (.exit 0))
  (.seq (.block 1 (.seq (.region false [⟨some 20, .mov none (.t 18), [], none⟩,
    ⟨some 21, .ixV 64 (.t 17) (.t 18), [], none⟩,
    ⟨some 7, .mov none (.t 20), [], none⟩,
    ⟨some 8, .mov none (.t 21), [], none⟩])
  (.seq (.region false [⟨some 22, .mov none (.t 8), [], none⟩,
    ⟨some 23, .bin .gtr (.t 22) (.k (.one (.iv (.int .i64 0)))), [], none⟩])
  (.cond (.t 23) (.region false [⟨some 24, .mov none (.t 6), [], none⟩,
    ⟨some 25, .mov none (.t 7), [], none⟩,
    ⟨some 26, .mks false 1 [.t 25], [], none⟩,
    ⟨some 27, .blt (.append 1 8) [.t 24, .t 26], [], none⟩,
    ⟨some 6, .mov none (.t 27), [], none⟩]) (.skip)))))
  (.region false [⟨some 28, .bin .add (.t 18) (.k (.one (.iv (.int .i64 1)))), [], none⟩,
    ⟨some 18, .mov none (.t 28), [], none⟩])))
def l44_1 : VCode := .seq (.region false [⟨some 35, .bin .lss (.t 34) (.t 33), [], none⟩])
  (.seq (.cond (.t 35) (.skip) (.exit 2))
  (.seq (.block 3 (.seq (.region false [⟨some 36, .ixS 1 (.t 32) (.t 34), [], none⟩,
    ⟨some 37, .load false 1 (.t 36), [], none⟩,
    ⟨some 10, .mov none (.t 37), [], none⟩])
  (.region false [⟨some 38, .mov none (.t 5), [], none⟩,
    ⟨some 39, .mov none (.t 10), [], none⟩,
    ⟨some 40, .ixA 64 1 (.t 3) (.t 39), [], none⟩,
    ⟨some 41, .load false 1 (.t 40), [], none⟩,
    ⟨some 42, .bin .sub (.t 41) (.k (.one (.iv (.int .i64 1)))), [], none⟩,
    ⟨some 43, .call 90 [(false, .t 38), (false, .t 42)], [], none⟩,
    ⟨some 5, .mov none (.t 43), [], none⟩])))
  (.region false [⟨some 44, .bin .add (.t 34) (.k (.one (.iv (.int .i64 1)))), [], none⟩,
    ⟨some 34, .mov none (.t 44), [], none⟩])))
def b44 : VCode := .seq (.region false [⟨some 3, .box (.t 1), [], none⟩,
    ⟨some 4, .mov none (.k (.one (.iv (.sl true 0 [])))), [], none⟩])
  (.seq (.region false [⟨some 11, .mov none (.t 0), [], none⟩,
    ⟨some 12, .blt (.append 1 1) [.k (.one (.iv (.sl true 0 []))), .t 11], [], none⟩,
    ⟨some 5, .mov none (.t 12), [], none⟩])
  (.seq (.seq (.region false [⟨some 13, .load true 64 (.t 3), [], none⟩,
    ⟨some 14, .call 81 [(false, .t 13)], [], none⟩,
    ⟨some 15, .un .not (.t 14), [], none⟩])
  (.cond (.t 15) (.seq (.region false [⟨some 16, .mov none (.t 5), [], none⟩,
    ⟨some 4, .mov none (.t 16), [], none⟩])
  (.ret)) (.skip)))
  (.seq (.region false [⟨some 6, .mov (some 1) (.k (.one (.iv (.sl true 0 [])))), [], none⟩])
  (.seq (.seq (.region false [⟨some 17, .load true 64 (.t 3), [], none⟩,
    ⟨some 18, .mov none (.k (.one (.iv (.int .i64 0)))), [], none⟩])
  (.block 0 (.loop false [3, 5, 6, 17, 18] l44_0)))
  (.seq (.region false [⟨some 29, .mov none (.t 5), [], none⟩,
    ⟨some 30, .mov none (.t 6), [], none⟩,
    ⟨some 31, .call 89 [(false, .t 29), (false, .t 30)], [], none⟩,
    ⟨some 5, .mov none (.t 31), [], none⟩])
  (.seq (.seq (.region false [⟨some 32, .mov none (.t 6), [], none⟩,
    ⟨some 33, .blt .len [.t 32], [], none⟩,
    ⟨some 34, .mov none (.k (.one (.iv (.int .i64 0)))), [], none⟩])
  (.block 2 (.loop false [3, 5, 32, 33, 34] l44_1)))
  (.seq (.region false [⟨some 45, .mov none (.t 5), [], none⟩,
    ⟨some 4, .mov none (.t 45), [], none⟩])
  (.ret))))))))
def v44 : VFn := ⟨2, 46, [.t 4], b44⟩

theorem c44 : chkFn Try.prog 44 v44 = true := by kernel_rfl

/- scholia/coder.Read -/
def b45 : VCode := .seq (.region false [⟨some 2, .mov none (.k (.one (.iv .nilp))), [], none⟩])
  (.seq (.region false [⟨some 3, .mov none (.t 0), [], none⟩,
    ⟨some 4, .blt (.append 1 1) [.k (.one (.iv (.sl true 0 []))), .t 3], [], none⟩,
    ⟨some 5, .build [.iv (.sl true 0 []), .iv (.int .i64 0), .iv (.bool false)] [(0, 1, .t 4), (2, 1, .k (.one (.iv (.bool true))))], [], none⟩,
    ⟨some 6, .box (.t 5), [], none⟩,
    ⟨some 2, .mov none (.t 6), [], none⟩])
  (.ret))
def v45 : VFn := ⟨1, 7, [.t 2], b45⟩

theorem c45 : chkFn Try.prog 45 v45 = true := by kernel_rfl

/- scholia/dots.Read -/
def l46_0 : VCode := .seq (.region false [⟨some 10, .bin .lss (.t 9) (.t 8), [], none⟩])
  (.seq (.cond (.t 10) (.skip) (.exit 0))
  (.seq (.block 1 (.seq (.region false [⟨some 11, .ixS 1 (.t 7) (.t 9), [], none⟩,
    ⟨some 12, .load false 1 (.t 11), [], none⟩,
    ⟨some 5, .mov none (.t 12), [], none⟩])
  (.region false [⟨some 13, .mov none (.t 5), [], none⟩,
    ⟨some 14, .mov none (.t 0), [], none⟩,
    ⟨some 15, .call 92 [(false, .t 14), (false, .k (.one (.iv (.int .i64 1073741823))))], [], none⟩,
    ⟨some 16, .bin .add (.t 15) (.k (.one (.iv (.int .i64 1)))), [], none⟩,
    ⟨some 17, .ixA 64 1 (.t 3) (.t 13), [], none⟩,
    ⟨none, .store 1 (.t 17) (.t 16), [], none⟩])))
  (.region false [⟨some 18, .bin .add (.t 9) (.k (.one (.iv (.int .i64 1)))), [], none⟩,
    ⟨some 9, .mov none (.t 18), [], none⟩])))
def b46 : VCode := .seq (.region false [⟨some 2, .new [.iv (.arr 64 (List.replicate 64 (.int .i64 0)))], [], none⟩])
  (.seq (.region false [⟨some 3, .new [.iv (.arr 64 (List.replicate 64 (.int .i64 0)))], [], none⟩])
  (.seq (.seq (.region false [⟨some 6, .mov none (.t 0), [], none⟩,
    ⟨some 7, .call 91 [(false, .t 6), (false, .k (.one (.iv (.int .i64 64)))), (false, .k (.one (.iv (.int .i64 63))))], [], none⟩,
    ⟨some 8, .blt .len [.t 7], [], none⟩,
    ⟨some 9, .mov none (.k (.one (.iv (.int .i64 0)))), [], none⟩])
  (.block 0 (.loop false [0, 2, 3, 7, 8, 9] l46_0)))
  (.seq (.seq (.region false [⟨some 19, .mov none (.t 0), [], none⟩,
    ⟨some 20, .call 47 [(false, .t 19)], [], none⟩,
    ⟨some 21, .bin .neq (.t 20) (.k (.one (.iv (.int .i64 0)))), [], none⟩])
  (.cond (.t 21) (.seq (.region false [⟨some 22, .build [.iv (.arr 64 (List.replicate 64 (.int .i64 0)))] [], [], none⟩,
    ⟨none, .store 64 (.t 2) (.t 22), [], none⟩])
  (.ret)) (.skip)))
  (.seq (.region false [⟨some 23, .load true 64 (.t 3), [], none⟩,
    ⟨none, .store 64 (.t 2) (.t 23), [], none⟩])
  (.ret)))))
def v46 : VFn := ⟨1, 24, [.c 2 true 64], b46⟩

theorem c46 : chkFn Try.prog 46 v46 = true := by kernel_rfl

/- (*scholia/coder.In).Err -/
def b47 : VCode := .seq (.region false [⟨some 2, .mov none (.k (.one (.iv (.int .i64 0)))), [], none⟩])
  (.seq (.seq (.region false [⟨some 3, .mov none (.t 0), [], none⟩,
    ⟨some 4, .eqs .eql .ptr (.t 3) (.k (.one (.iv .nilp))), [], none⟩,
    ⟨some 5, .mov none (.t 4), [], none⟩,
    ⟨some 6, .mov none (.t 0), [], some (5, false)⟩,
    ⟨some 7, .nilc (.t 6), [], some (5, false)⟩,
    ⟨some 8, .fad 2 (.t 7), [], some (5, false)⟩,
    ⟨some 9, .load false 1 (.t 8), [], some (5, false)⟩,
    ⟨some 10, .un .not (.t 9), [], some (5, false)⟩,
    ⟨some 11, .pick (.t 5) (.k (.one (.iv (.bool true)))) (.t 10), [], none⟩])
  (.cond (.t 11) (.seq (.region false [⟨some 2, .mov none (.k (.one (.iv (.int .i64 2)))), [], none⟩])
  (.ret)) (.skip)))
  (.seq (.region false [⟨some 12, .mov none (.t 0), [], none⟩,
    ⟨some 13, .nilc (.t 12), [], none⟩,
    ⟨some 14, .fad 1 (.t 13), [], none⟩,
    ⟨some 15, .load false 1 (.t 14), [], none⟩,
    ⟨some 2, .mov none (.t 15), [], none⟩])
  (.ret)))
def v47 : VFn := ⟨1, 16, [.t 2], b47⟩

theorem c47 : chkFn Try.prog 47 v47 = true := by kernel_rfl

/- (*scholia/coder.In).Left -/
def b48 : VCode := .seq (.region false [⟨some 2, .mov none (.k (.one (.iv (.int .i64 0)))), [], none⟩])
  (.seq (.seq (.region false [⟨some 3, .mov none (.t 0), [], none⟩,
    ⟨some 4, .eqs .eql .ptr (.t 3) (.k (.one (.iv .nilp))), [], none⟩])
  (.cond (.t 4) (.seq (.region false [⟨some 2, .mov none (.k (.one (.iv (.int .i64 0)))), [], none⟩])
  (.ret)) (.skip)))
  (.seq (.region false [⟨some 5, .mov none (.t 0), [], none⟩,
    ⟨some 6, .nilc (.t 5), [], none⟩,
    ⟨some 7, .fad 0 (.t 6), [], none⟩,
    ⟨some 8, .load false 1 (.t 7), [], none⟩,
    ⟨some 9, .blt .len [.t 8], [], none⟩,
    ⟨some 2, .mov none (.t 9), [], none⟩])
  (.ret)))
def v48 : VFn := ⟨1, 10, [.t 2], b48⟩

theorem c48 : chkFn Try.prog 48 v48 = true := by kernel_rfl

/- bytes.Equal -/
def b50 : VCode := .seq (.region false [⟨some 4, .mov none (.k (.one (.iv (.bool false)))), [], none⟩])
  (.seq (.region false [⟨some 5, .mov none (.t 0), [], none⟩,
    ⟨some 6, .b2s (.t 5), [], none⟩,
    ⟨some 7, .mov none (.t 1), [], none⟩,
    ⟨some 8, .b2s (.t 7), [], none⟩,
    ⟨some 9, .bin .eql (.t 6) (.t 8), [], none⟩,
    ⟨some 4, .mov none (.t 9), [], none⟩])
  (.ret))
def v50 : VFn := ⟨2, 10, [.t 4], b50⟩

theorem c50 : chkFn Try.prog 50 v50 = true := by kernel_rfl

/- scholia/scholiaref08.Put -/
def l51_0 : VCode := .seq (.region false [⟨some 20, .bin .lss (.t 19) (.k (.one (.iv (.int .i64 64)))), [], none⟩])
  (.seq (.cond (.t 20) (.skip) (.exit 0))
  (.seq (.block 1 (.seq (.region false [⟨some 21, .mov none (.t 19), [], none⟩,
    ⟨some 22, .ixV 64 (.t 18) (.t 19), [], none⟩,
    ⟨some 7, .mov none (.t 21), [], none⟩,
    ⟨some 8, .mov none (.t 22), [], none⟩])
  (.seq (.region false [⟨some 23, .mov none (.t 8), [], none⟩,
    ⟨some 24, .bin .neq (.t 23) (.k (.one (.iv (.int .i64 0)))), [], none⟩])
  (.cond (.t 24) (.region false [⟨some 25, .mov none (.t 6), [], none⟩,
    ⟨some 26, .mov none (.t 7), [], none⟩,
    ⟨some 27, .mks false 1 [.t 26], [], none⟩,
    ⟨some 28, .blt (.append 1 8) [.t 25, .t 27], [], none⟩,
    ⟨some 6, .mov none (.t 28), [], none⟩]) (.skip)))))
  (.region false [⟨some 29, .bin .add (.t 19) (.k (.one (.iv (.int .i64 1)))), [], none⟩,
    ⟨some 19, .mov none (.t 29), [], none⟩])))
def l51_1 : VCode := .seq (.region false [⟨some 36, .bin .lss (.t 35) (.t 34), [], none⟩])
  (.seq (.cond (.t 36) (.skip) (.exit 2))
  (.seq (.block 3 (.seq (.region false [⟨some 37, .ixS 1 (.t 33) (.t 35), [], none⟩,
    ⟨some 38, .load false 1 (.t 37), [], none⟩,
    ⟨some 10, .mov none (.t 38), [], none⟩])
  (.region false [⟨some 39, .mov none (.t 5), [], none⟩,
    ⟨some 40, .mov none (.t 10), [], none⟩,
    ⟨some 41, .ixA 64 1 (.t 3) (.t 40), [], none⟩,
    ⟨some 42, .load false 1 (.t 41), [], none⟩,
    ⟨some 43, .bin .sub (.t 42) (.k (.one (.iv (.int .i64 1)))), [], none⟩,
    ⟨some 44, .call 94 [(false, .t 39), (false, .t 43)], [], none⟩,
    ⟨some 5, .mov none (.t 44), [], none⟩])))
  (.region false [⟨some 45, .bin .add (.t 35) (.k (.one (.iv (.int .i64 1)))), [], none⟩,
    ⟨some 35, .mov none (.t 45), [], none⟩])))
def b51 : VCode := .seq (.region false [⟨some 3, .box (.t 1), [], none⟩,
    ⟨some 4, .mov none (.k (.one (.iv (.sl true 0 [])))), [], none⟩])
  (.seq (.region false [⟨some 5, .mov none (.k (.one (.iv (.sl true 0 [])))), [], none⟩])
  (.seq (.region false [⟨some 11, .mov none (.t 5), [], none⟩,
    ⟨some 12, .mov none (.t 0), [], none⟩,
    ⟨some 13, .blt (.append 1 1) [.t 11, .t 12], [], none⟩,
    ⟨some 5, .mov none (.t 13), [], none⟩])
  (.seq (.seq (.region false [⟨some 14, .load true 64 (.t 3), [], none⟩,
    ⟨some 15, .call 33 [(false, .t 14)], [], none⟩,
    ⟨some 16, .un .not (.t 15), [], none⟩])
  (.cond (.t 16) (.seq (.region false [⟨some 17, .mov none (.t 5), [], none⟩,
    ⟨some 4, .mov none (.t 17), [], none⟩])
  (.ret)) (.skip)))
  (.seq (.region false [⟨some 6, .mov (some 1) (.k (.one (.iv (.sl true 0 [])))), [], none⟩])
  (.seq (.seq (.region false [⟨some 18, .load true 64 (.t 3), [], none⟩,
    ⟨some 19, .mov none (.k (.one (.iv (.int .i64 0)))), [], none⟩])
  (.block 0 (.loop false [3, 5, 6, 18, 19] l51_0)))
  (.seq (.region false [⟨some 30, .mov none (.t 5), [], none⟩,
    ⟨some 31, .mov none (.t 6), [], none⟩,
    ⟨some 32, .call 93 [(false, .t 30), (false, .t 31)], [], none⟩,
    ⟨some 5, .mov none (.t 32), [], none⟩])
  (.seq (.seq (.region false [⟨some 33, .mov none (.t 6), [], none⟩,
    ⟨some 34, .blt .len [.t 33], [], none⟩,
    ⟨some 35, .mov none (.k (.one (.iv (.int .i64 0)))), [], none⟩])
  (.block 2 (.loop false [3, 5, 33, 34, 35] l51_1)))
  (.seq (.region false [⟨some 46, .mov none (.t 5), [], none⟩,
    ⟨some 4, .mov none (.t 46), [], none⟩])
  (.ret)))))))))
def v51 : VFn := ⟨2, 47, [.t 4], b51⟩

theorem c51 : chkFn Try.prog 51 v51 = true := by kernel_rfl

/- scholia/scholiaref08.Read -/
def l52_0 : VCode := .seq (.region false [⟨some 10, .bin .lss (.t 9) (.t 8), [], none⟩])
  (.seq (.cond (.t 10) (.skip) (.exit 0))
  (.seq (.block 1 (.seq (.region false [⟨some 11, .ixS 1 (.t 7) (.t 9), [], none⟩,
    ⟨some 12, .load false 1 (.t 11), [], none⟩,
    ⟨some 5, .mov none (.t 12), [], none⟩])
  (.region false [⟨some 13, .mov none (.t 5), [], none⟩,
    ⟨some 14, .mov none (.t 0), [], none⟩,
    ⟨some 15, .call 96 [(false, .t 14), (false, .k (.one (.iv (.int .i64 1073741823))))], [], none⟩,
    ⟨some 16, .bin .add (.k (.one (.iv (.int .i64 1)))) (.t 15), [], none⟩,
    ⟨some 17, .ixA 64 1 (.t 3) (.t 13), [], none⟩,
    ⟨none, .store 1 (.t 17) (.t 16), [], none⟩])))
  (.region false [⟨some 18, .bin .add (.t 9) (.k (.one (.iv (.int .i64 1)))), [], none⟩,
    ⟨some 9, .mov none (.t 18), [], none⟩])))
def b52 : VCode := .seq (.region false [⟨some 2, .new [.iv (.arr 64 (List.replicate 64 (.int .i64 0)))], [], none⟩])
  (.seq (.region false [⟨some 3, .new [.iv (.arr 64 (List.replicate 64 (.int .i64 0)))], [], none⟩])
  (.seq (.seq (.region false [⟨some 6, .mov none (.t 0), [], none⟩,
    ⟨some 7, .call 95 [(false, .t 6), (false, .k (.one (.iv (.int .i64 64)))), (false, .k (.one (.iv (.int .i64 63))))], [], none⟩,
    ⟨some 8, .blt .len [.t 7], [], none⟩,
    ⟨some 9, .mov none (.k (.one (.iv (.int .i64 0)))), [], none⟩])
  (.block 0 (.loop false [0, 2, 3, 7, 8, 9] l52_0)))
  (.seq (.seq (.region false [⟨some 19, .mov none (.t 0), [], none⟩,
    ⟨some 20, .nilc (.t 19), [], none⟩,
    ⟨some 21, .fad 1 (.t 20), [], none⟩,
    ⟨some 22, .load false 1 (.t 21), [], none⟩,
    ⟨some 23, .bin .neq (.t 22) (.k (.one (.iv (.int .i64 0)))), [], none⟩])
  (.cond (.t 23) (.seq (.region false [⟨some 24, .build [.iv (.arr 64 (List.replicate 64 (.int .i64 0)))] [], [], none⟩,
    ⟨none, .store 64 (.t 2) (.t 24), [], none⟩])
  (.ret)) (.skip)))
  (.seq (.region false [⟨some 25, .load true 64 (.t 3), [], none⟩,
    ⟨none, .store 64 (.t 2) (.t 25), [], none⟩])
  (.ret)))))
def v52 : VFn := ⟨1, 26, [.c 2 true 64], b52⟩

theorem c52 : chkFn Try.prog 52 v52 = true := by kernel_rfl

/- scholia/scholiaplain.Few -/
def l53_1 : VCode := .seq (.region false [⟨some 25, .bin .lss (.t 24) (.t 23), [], none⟩])
  (.seq (.cond (.t 25) (.skip) (.exit 2))
  (.seq (.block 3 (.seq (.region false [⟨some 26, .ixS 8 (.t 22) (.t 24), [], none⟩,
    ⟨some 27, .load true 8 (.t 26), [], none⟩,
    ⟨some 8, .new [.iv (.int .i64 0), .iv (.int .i64 0), .iv (.int .i64 0), .iv (.int .i64 0), .iv (.str ⟨#[]⟩), .iv (.int .i64 0), .iv (.str ⟨#[]⟩), .iv (.sl true 0 [])], [], none⟩,
    ⟨none, .store 8 (.t 8) (.t 27), [], none⟩])
  (.seq (.seq (.region false [⟨some 28, .fad 7 (.t 8), [], none⟩,
    ⟨some 29, .load false 1 (.t 28), [], none⟩,
    ⟨some 30, .blt .len [.t 29], [], none⟩,
    ⟨some 31, .bin .gtr (.t 30) (.k (.one (.iv (.int .i64 130)))), [], none⟩])
  (.cond (.t 31) (.seq (.region false [⟨some 2, .mov none (.k (.one (.iv (.bool false)))), [], none⟩])
  (.ret)) (.skip)))
  (.seq (.region false [⟨some 32, .mov none (.t 4), [], none⟩,
    ⟨some 33, .fad 4 (.t 8), [], none⟩,
    ⟨some 34, .load false 1 (.t 33), [], none⟩,
    ⟨some 35, .blt .lenS [.t 34], [], none⟩,
    ⟨some 36, .blt .min [.t 35, .k (.one (.iv (.int .i64 8192)))], [], none⟩,
    ⟨some 37, .fad 6 (.t 8), [], none⟩,
    ⟨some 38, .load false 1 (.t 37), [], none⟩,
    ⟨some 39, .blt .lenS [.t 38], [], none⟩,
    ⟨some 40, .blt .min [.t 39, .k (.one (.iv (.int .i64 8192)))], [], none⟩,
    ⟨some 41, .bin .add (.t 36) (.t 40), [], none⟩,
    ⟨some 42, .bin .add (.t 32) (.t 41), [], none⟩,
    ⟨some 4, .mov none (.t 42), [], none⟩])
  (.seq (.region false [⟨some 43, .mov none (.t 4), [], none⟩,
    ⟨some 44, .bin .gtr (.t 43) (.k (.one (.iv (.int .i64 8192)))), [], none⟩])
  (.cond (.t 44) (.seq (.region false [⟨some 2, .mov none (.k (.one (.iv (.bool false)))), [], none⟩])
  (.ret)) (.skip)))))))
  (.region false [⟨some 45, .bin .add (.t 24) (.k (.one (.iv (.int .i64 1)))), [], none⟩,
    ⟨some 24, .mov none (.t 45), [], none⟩])))
def l53_0 : VCode := .seq (.region false [⟨some 12, .bin .lss (.t 11) (.t 10), [], none⟩])
  (.seq (.cond (.t 12) (.skip) (.exit 0))
  (.seq (.block 1 (.seq (.region false [⟨some 13, .ixS 1 (.t 9) (.t 11), [], none⟩,
    ⟨some 14, .load false 1 (.t 13), [], none⟩,
    ⟨some 6, .mov none (.t 14), [], none⟩])
  (.seq (.seq (.region false [⟨some 15, .mov none (.t 3), [], none⟩,
    ⟨some 16, .mov none (.t 6), [], none⟩,
    ⟨some 17, .blt .len [.t 16], [], none⟩,
    ⟨some 18, .blt .min [.t 17, .k (.one (.iv (.int .i64 100)))], [], none⟩,
    ⟨some 19, .bin .add (.t 15) (.t 18), [], none⟩,
    ⟨some 3, .mov none (.t 19), [], none⟩])
  (.seq (.region false [⟨some 20, .mov none (.t 3), [], none⟩,
    ⟨some 21, .bin .gtr (.t 20) (.k (.one (.iv (.int .i64 80)))), [], none⟩])
  (.cond (.t 21) (.seq (.region false [⟨some 2, .mov none (.k (.one (.iv (.bool false)))), [], none⟩])
  (.ret)) (.skip))))
  (.seq (.region false [⟨some 22, .mov none (.t 6), [], none⟩,
    ⟨some 23, .blt .len [.t 22], [], none⟩,
    ⟨some 24, .mov none (.k (.one (.iv (.int .i64 0)))), [], none⟩])
  (.block 2 (.loop false [3, 4, 9, 10, 11, 22, 23, 24] l53_1))))))
  (.region false [⟨some 46, .bin .add (.t 11) (.k (.one (.iv (.int .i64 1)))), [], none⟩,
    ⟨some 11, .mov none (.t 46), [], none⟩])))
def b53 : VCode := .seq (.region false [⟨some 2, .mov none (.k (.one (.iv (.bool false)))), [], none⟩])
  (.seq (.region false [⟨some 3, .mov none (.k (.one (.iv (.int .i64 0)))), [], none⟩,
    ⟨some 4, .mov none (.k (.one (.iv (.int .i64 0)))), [], none⟩])
  (.seq (.seq (.region false [⟨some 9, .mov none (.t 0), [], none⟩,
    ⟨some 10, .blt .len [.t 9], [], none⟩,
    ⟨some 11, .mov none (.k (.one (.iv (.int .i64 0)))), [], none⟩])
  (.block 0 (.loop false [3, 4, 9, 10, 11] l53_0)))
  (.seq (.region false [⟨some 2, .mov none (.k (.one (.iv (.bool true)))), [], none⟩])
  (.ret))))
def v53 : VFn := ⟨1, 47, [.t 2], b53⟩

theorem c53 : chkFn Try.prog 53 v53 = true := by kernel_rfl

/- scholia/scholialaw13.awake -/
def b54 : VCode := .seq (.region false [⟨some 0, .mov none (.k (.one (.iv (.bool false)))), [], none⟩])
  (.seq (.region false [⟨some 3, .build [.iv (.int .i64 0), .iv (.int .i64 0)] [(0, 1, .k (.one (.iv (.int .i64 0)))), (1, 1, .k (.one (.iv (.int .i64 1))))], [], none⟩,
    ⟨some 4, .build [.iv (.int .i64 0), .iv (.int .i64 0), .iv (.int .i64 0), .iv (.int .i64 0), .iv (.str ⟨#[]⟩), .iv (.int .i64 0), .iv (.str ⟨#[]⟩), .iv (.sl true 0 [])] [(0, 2, .t 3), (3, 1, .k (.one (.iv (.int .i64 1))))], [], none⟩,
    ⟨some 5, .build [.iv (.int .i64 0), .iv (.int .i64 0)] [(0, 1, .k (.one (.iv (.int .i64 0)))), (1, 1, .k (.one (.iv (.int .i64 2))))], [], none⟩,
    ⟨some 6, .build [.iv (.int .i64 0), .iv (.int .i64 0), .iv (.int .i64 0), .iv (.int .i64 0), .iv (.str ⟨#[]⟩), .iv (.int .i64 0), .iv (.str ⟨#[]⟩), .iv (.sl true 0 [])] [(0, 2, .t 5), (3, 1, .k (.one (.iv (.int .i64 2))))], [], none⟩,
    ⟨some 7, .build [.iv (.int .i64 0), .iv (.int .i64 0)] [(0, 1, .k (.one (.iv (.int .i64 1)))), (1, 1, .k (.one (.iv (.int .i64 1))))], [], none⟩,
    ⟨some 8, .build [.iv (.int .i64 0), .iv (.int .i64 0), .iv (.int .i64 0), .iv (.int .i64 0), .iv (.str ⟨#[]⟩), .iv (.int .i64 0), .iv (.str ⟨#[]⟩), .iv (.sl true 0 [])] [(0, 2, .t 7), (3, 1, .k (.one (.iv (.int .i64 1))))], [], none⟩,
    ⟨some 9, .mks false 8 [.t 4, .t 6, .t 8], [], none⟩,
    ⟨some 10, .build [.iv (.sl true 0 []), .iv (.arr 64 (List.replicate 64 (.int .i64 0)))] [(0, 1, .t 9)], [], none⟩,
    ⟨some 1, .new [.iv (.sl true 0 []), .iv (.arr 64 (List.replicate 64 (.int .i64 0)))], [], none⟩,
    ⟨none, .store 65 (.t 1) (.t 10), [], none⟩])
  (.seq (.region false [⟨some 11, .load true 65 (.t 1), [], none⟩,
    ⟨some 12, .call 55 [(false, .t 11), (false, .k (.one (.iv (.int .i64 1))))], [], none⟩,
    ⟨some 2, .new [.iv (.sl true 0 []), .iv (.arr 64 (List.replicate 64 (.int .i64 0)))], [], none⟩,
    ⟨none, .store 65 (.t 2) (.t 12), [], none⟩])
  (.seq (.region false [⟨some 13, .fad 0 (.t 2), [], none⟩,
    ⟨some 14, .load false 1 (.t 13), [], none⟩,
    ⟨some 15, .blt .len [.t 14], [], none⟩,
    ⟨some 16, .bin .eql (.t 15) (.k (.one (.iv (.int .i64 2)))), [], none⟩,
    ⟨some 17, .mov none (.t 16), [], none⟩,
    ⟨some 18, .fad 0 (.t 2), [], some (17, true)⟩,
    ⟨some 19, .load false 1 (.t 18), [], some (17, true)⟩,
    ⟨some 20, .ixS 8 (.t 19) (.k (.one (.iv (.int .i64 0)))), [], some (17, true)⟩,
    ⟨some 21, .fad 3 (.t 20), [], some (17, true)⟩,
    ⟨some 22, .load false 1 (.t 21), [], some (17, true)⟩,
    ⟨some 23, .bin .eql (.t 22) (.k (.one (.iv (.int .i64 2)))), [], some (17, true)⟩,
    ⟨some 24, .pick (.t 17) (.t 23) (.k (.one (.iv (.bool false)))), [], none⟩,
    ⟨some 25, .mov none (.t 24), [], none⟩,
    ⟨some 26, .fad 1 (.t 2), [], some (25, true)⟩,
    ⟨some 27, .ixA 64 1 (.t 26) (.k (.one (.iv (.int .i64 0)))), [], some (25, true)⟩,
    ⟨some 28, .load false 1 (.t 27), [], some (25, true)⟩,
    ⟨some 29, .bin .eql (.t 28) (.k (.one (.iv (.int .i64 1)))), [], some (25, true)⟩,
    ⟨some 30, .pick (.t 25) (.t 29) (.k (.one (.iv (.bool false)))), [], none⟩,
    ⟨some 31, .mov none (.t 30), [], none⟩,
    ⟨some 32, .load true 65 (.t 2), [], some (31, true)⟩,
    ⟨some 33, .call 57 [(false, .t 32)], [], some (31, true)⟩,
    ⟨some 34, .bin .eql (.t 33) (.k (.one (.iv (.int .i64 1)))), [], some (31, true)⟩,
    ⟨some 35, .pick (.t 31) (.t 34) (.k (.one (.iv (.bool false)))), [], none⟩,
    ⟨some 0, .mov none (.t 35), [], none⟩])
  (.ret))))
def v54 : VFn := ⟨0, 36, [.t 0], b54⟩

theorem c54 : chkFn Try.prog 54 v54 = true := by kernel_rfl

/- scholia/past.Trim -/
def l55_0 : VCode := .seq (.region false [⟨some 15, .bin .lss (.t 14) (.t 13), [], none⟩])
  (.seq (.cond (.t 15) (.skip) (.exit 0))
  (.seq (.block 1 (.seq (.region false [⟨some 16, .ixS 8 (.t 12) (.t 14), [], none⟩,
    ⟨some 17, .load true 8 (.t 16), [], none⟩,
    ⟨some 7, .new [.iv (.int .i64 0), .iv (.int .i64 0), .iv (.int .i64 0), .iv (.int .i64 0), .iv (.str ⟨#[]⟩), .iv (.int .i64 0), .iv (.str ⟨#[]⟩), .iv (.sl true 0 [])], [], none⟩,
    ⟨none, .store 8 (.t 7) (.t 17), [], none⟩])
  (.seq (.region false [⟨some 18, .fad 3 (.t 7), [], none⟩,
    ⟨some 19, .load false 1 (.t 18), [], none⟩,
    ⟨some 20, .bin .neq (.t 19) (.k (.one (.iv (.int .i64 2)))), [], none⟩])
  (.cond (.t 20) (.region false [⟨some 21, .mov none (.t 5), [], none⟩,
    ⟨some 22, .bin .add (.t 21) (.k (.one (.iv (.int .i64 1)))), [], none⟩,
    ⟨some 5, .mov none (.t 22), [], none⟩]) (.skip)))))
  (.region false [⟨some 23, .bin .add (.t 14) (.k (.one (.iv (.int .i64 1)))), [], none⟩,
    ⟨some 14, .mov none (.t 23), [], none⟩])))
def l55_1 : VCode := .seq (.region false [⟨some 31, .bin .lss (.t 30) (.t 29), [], none⟩])
  (.seq (.cond (.t 31) (.skip) (.exit 2))
  (.seq (.block 3 (.seq (.region false [⟨some 32, .ixS 8 (.t 28) (.t 30), [], none⟩,
    ⟨some 33, .load true 8 (.t 32), [], none⟩,
    ⟨some 10, .new [.iv (.int .i64 0), .iv (.int .i64 0), .iv (.int .i64 0), .iv (.int .i64 0), .iv (.str ⟨#[]⟩), .iv (.int .i64 0), .iv (.str ⟨#[]⟩), .iv (.sl true 0 [])], [], none⟩,
    ⟨none, .store 8 (.t 10) (.t 33), [], none⟩])
  (.seq (.seq (.region false [⟨some 34, .fad 3 (.t 10), [], none⟩,
    ⟨some 35, .load false 1 (.t 34), [], none⟩,
    ⟨some 36, .bin .neq (.t 35) (.k (.one (.iv (.int .i64 2)))), [], none⟩,
    ⟨some 37, .mov none (.t 36), [], none⟩,
    ⟨some 38, .mov none (.t 5), [], some (37, true)⟩,
    ⟨some 39, .mov none (.t 1), [], some (37, true)⟩,
    ⟨some 40, .blt .max [.t 39, .k (.one (.iv (.int .i64 0)))], [], some (37, true)⟩,
    ⟨some 41, .bin .gtr (.t 38) (.t 40), [], some (37, true)⟩,
    ⟨some 42, .pick (.t 37) (.t 41) (.k (.one (.iv (.bool false)))), [], none⟩])
  (.cond (.t 42) (.seq (.region false [⟨some 43, .fad 1 (.t 8), [], none⟩,
    ⟨some 44, .load true 64 (.t 43), [], none⟩,
    ⟨some 45, .fad 0 (.t 10), [], none⟩,
    ⟨some 46, .load true 2 (.t 45), [], none⟩,
    ⟨some 47, .call 23 [(false, .t 44), (false, .t 46)], [], none⟩,
    ⟨some 48, .fad 1 (.t 8), [], none⟩,
    ⟨none, .store 64 (.t 48) (.t 47), [], none⟩])
  (.seq (.region false [⟨some 49, .mov none (.t 5), [], none⟩,
    ⟨some 50, .bin .sub (.t 49) (.k (.one (.iv (.int .i64 1)))), [], none⟩,
    ⟨some 5, .mov none (.t 50), [], none⟩])
  (.exit 3))) (.skip)))
  (.region true [⟨some 51, .fad 0 (.t 8), [], none⟩,
    ⟨some 52, .load false 1 (.t 51), [0], none⟩,
    ⟨some 53, .load true 8 (.t 10), [], none⟩,
    ⟨some 54, .call 97 [(false, .t 53)], [2], none⟩,
    ⟨some 55, .mks false 8 [.t 54], [3], none⟩,
    ⟨some 56, .blt (.append 8 96) [.t 52, .t 55], [4, 1], none⟩,
    ⟨some 57, .fad 0 (.t 8), [5], none⟩,
    ⟨none, .store 1 (.t 57) (.t 56), [6], none⟩]))))
  (.region false [⟨some 58, .bin .add (.t 30) (.k (.one (.iv (.int .i64 1)))), [], none⟩,
    ⟨some 30, .mov none (.t 58), [], none⟩])))
def b55 : VCode := .seq (.region false [⟨some 2, .box (.t 0), [], none⟩,
    ⟨some 4, .new [.iv (.sl true 0 []), .iv (.arr 64 (List.replicate 64 (.int .i64 0)))], [], none⟩])
  (.seq (.region false [⟨some 5, .mov none (.k (.one (.iv (.int .i64 0)))), [], none⟩])
  (.seq (.seq (.region false [⟨some 11, .fad 0 (.t 2), [], none⟩,
    ⟨some 12, .load false 1 (.t 11), [], none⟩,
    ⟨some 13, .blt .len [.t 12], [], none⟩,
    ⟨some 14, .mov none (.k (.one (.iv (.int .i64 0)))), [], none⟩])
  (.block 0 (.loop false [1, 2, 4, 5, 12, 13, 14] l55_0)))
  (.seq (.region false [⟨some 24, .fad 1 (.t 2), [], none⟩,
    ⟨some 25, .load true 64 (.t 24), [], none⟩,
    ⟨some 26, .build [.fresh 8, .iv (.arr 64 (List.replicate 64 (.int .i64 0)))] [(1, 64, .t 25)], [], none⟩,
    ⟨some 8, .new [.iv (.sl true 0 []), .iv (.arr 64 (List.replicate 64 (.int .i64 0)))], [], none⟩,
    ⟨none, .store 65 (.t 8) (.t 26), [], none⟩])
  (.seq (.seq (.region false [⟨some 27, .fad 0 (.t 2), [], none⟩,
    ⟨some 28, .load false 1 (.t 27), [], none⟩,
    ⟨some 29, .blt .len [.t 28], [], none⟩,
    ⟨some 30, .mov none (.k (.one (.iv (.int .i64 0)))), [], none⟩])
  (.block 2 (.loop false [1, 4, 5, 8, 28, 29, 30] l55_1)))
  (.seq (.region false [⟨some 59, .load true 65 (.t 8), [], none⟩,
    ⟨none, .store 65 (.t 4) (.t 59), [], none⟩])
  (.ret))))))
def v55 : VFn := ⟨2, 60, [.c 4 true 65], b55⟩

theorem c55 : chkFn Try.prog 55 v55 = true := by kernel_rfl

/- scholia/past.Drops -/
def l57_0 : VCode := .seq (.region false [⟨some 10, .bin .lss (.t 9) (.t 8), [], none⟩])
  (.seq (.cond (.t 10) (.skip) (.exit 0))
  (.seq (.block 1 (.seq (.region false [⟨some 11, .ixS 8 (.t 7) (.t 9), [], none⟩,
    ⟨some 12, .load true 8 (.t 11), [], none⟩,
    ⟨some 5, .new [.iv (.int .i64 0), .iv (.int .i64 0), .iv (.int .i64 0), .iv (.int .i64 0), .iv (.str ⟨#[]⟩), .iv (.int .i64 0), .iv (.str ⟨#[]⟩), .iv (.sl true 0 [])], [], none⟩,
    ⟨none, .store 8 (.t 5) (.t 12), [], none⟩])
  (.seq (.region false [⟨some 13, .fad 3 (.t 5), [], none⟩,
    ⟨some 14, .load false 1 (.t 13), [], none⟩,
    ⟨some 15, .bin .eql (.t 14) (.k (.one (.iv (.int .i64 2)))), [], none⟩])
  (.cond (.t 15) (.region false [⟨some 16, .mov none (.t 3), [], none⟩,
    ⟨some 17, .bin .add (.t 16) (.k (.one (.iv (.int .i64 1)))), [], none⟩,
    ⟨some 3, .mov none (.t 17), [], none⟩]) (.skip)))))
  (.region false [⟨some 18, .bin .add (.t 9) (.k (.one (.iv (.int .i64 1)))), [], none⟩,
    ⟨some 9, .mov none (.t 18), [], none⟩])))
def b57 : VCode := .seq (.region false [⟨some 1, .box (.t 0), [], none⟩,
    ⟨some 2, .mov none (.k (.one (.iv (.int .i64 0)))), [], none⟩])
  (.seq (.region false [⟨some 3, .mov none (.k (.one (.iv (.int .i64 0)))), [], none⟩])
  (.seq (.seq (.region false [⟨some 6, .fad 0 (.t 1), [], none⟩,
    ⟨some 7, .load false 1 (.t 6), [], none⟩,
    ⟨some 8, .blt .len [.t 7], [], none⟩,
    ⟨some 9, .mov none (.k (.one (.iv (.int .i64 0)))), [], none⟩])
  (.block 0 (.loop false [3, 7, 8, 9] l57_0)))
  (.seq (.region false [⟨some 19, .mov none (.t 3), [], none⟩,
    ⟨some 2, .mov none (.t 19), [], none⟩])
  (.ret))))
def v57 : VFn := ⟨1, 20, [.t 2], b57⟩

theorem c57 : chkFn Try.prog 57 v57 = true := by kernel_rfl

/- scholia/scholiaref13.SameEvents -/
def l65_1 : VCode := .seq (.region false [⟨some 79, .bin .lss (.t 78) (.t 77), [], none⟩])
  (.seq (.cond (.t 79) (.skip) (.exit 2))
  (.seq (.block 3 (.seq (.region false [⟨some 80, .mov none (.t 78), [], none⟩,
    ⟨some 81, .ixS 2 (.t 76) (.t 78), [], none⟩,
    ⟨some 82, .load true 2 (.t 81), [], none⟩,
    ⟨some 9, .new [.iv (.int .i64 0), .iv (.int .i64 0)], [], none⟩,
    ⟨some 8, .mov none (.t 80), [], none⟩,
    ⟨none, .store 2 (.t 9) (.t 82), [], none⟩])
  (.seq (.region true [⟨some 83, .fad 7 (.t 7), [], none⟩,
    ⟨some 84, .load false 1 (.t 83), [0], none⟩,
    ⟨some 85, .mov none (.t 8), [], none⟩,
    ⟨some 86, .ixS 2 (.t 84) (.t 85), [2, 1], none⟩,
    ⟨some 87, .load true 2 (.t 86), [3], none⟩,
    ⟨some 88, .load true 2 (.t 9), [], none⟩,
    ⟨some 89, .eqa .neq ([.int] ++ [.int]) (.t 87) (.t 88), [5, 4], none⟩])
  (.cond (.t 89) (.seq (.region false [⟨some 4, .mov none (.k (.one (.iv (.bool false)))), [], none⟩])
  (.ret)) (.skip)))))
  (.region false [⟨some 90, .bin .add (.t 78) (.k (.one (.iv (.int .i64 1)))), [], none⟩,
    ⟨some 78, .mov none (.t 90), [], none⟩])))
def l65_0 : VCode := .seq (.region false [⟨some 18, .bin .lss (.t 17) (.t 16), [], none⟩])
  (.seq (.cond (.t 18) (.skip) (.exit 0))
  (.seq (.block 1 (.seq (.region false [⟨some 19, .mov none (.t 17), [], none⟩,
    ⟨some 20, .ixS 8 (.t 15) (.t 17), [], none⟩,
    ⟨some 21, .load true 8 (.t 20), [], none⟩,
    ⟨some 6, .new [.iv (.int .i64 0), .iv (.int .i64 0), .iv (.int .i64 0), .iv (.int .i64 0), .iv (.str ⟨#[]⟩), .iv (.int .i64 0), .iv (.str ⟨#[]⟩), .iv (.sl true 0 [])], [], none⟩,
    ⟨some 5, .mov none (.t 19), [], none⟩,
    ⟨none, .store 8 (.t 6) (.t 21), [], none⟩])
  (.seq (.region false [⟨some 22, .mov none (.t 1), [], none⟩,
    ⟨some 23, .mov none (.t 5), [], none⟩,
    ⟨some 24, .ixS 8 (.t 22) (.t 23), [], none⟩,
    ⟨some 25, .load true 8 (.t 24), [], none⟩,
    ⟨some 7, .new [.iv (.int .i64 0), .iv (.int .i64 0), .iv (.int .i64 0), .iv (.int .i64 0), .iv (.str ⟨#[]⟩), .iv (.int .i64 0), .iv (.str ⟨#[]⟩), .iv (.sl true 0 [])], [], none⟩,
    ⟨none, .store 8 (.t 7) (.t 25), [], none⟩])
  (.seq (.seq (.region false [⟨some 26, .fad 0 (.t 6), [], none⟩,
    ⟨some 27, .load true 2 (.t 26), [], none⟩,
    ⟨some 28, .fad 0 (.t 7), [], none⟩,
    ⟨some 29, .load true 2 (.t 28), [], none⟩,
    ⟨some 30, .eqa .neq ([.int] ++ [.int]) (.t 27) (.t 29), [], none⟩,
    ⟨some 31, .mov none (.t 30), [], none⟩,
    ⟨some 32, .fad 2 (.t 6), [], some (31, false)⟩,
    ⟨some 33, .load false 1 (.t 32), [], some (31, false)⟩,
    ⟨some 34, .fad 2 (.t 7), [], some (31, false)⟩,
    ⟨some 35, .load false 1 (.t 34), [], some (31, false)⟩,
    ⟨some 36, .bin .neq (.t 33) (.t 35), [], some (31, false)⟩,
    ⟨some 37, .pick (.t 31) (.k (.one (.iv (.bool true)))) (.t 36), [], none⟩,
    ⟨some 38, .mov none (.t 37), [], none⟩,
    ⟨some 39, .fad 3 (.t 6), [], some (38, false)⟩,
    ⟨some 40, .load false 1 (.t 39), [], some (38, false)⟩,
    ⟨some 41, .fad 3 (.t 7), [], some (38, false)⟩,
    ⟨some 42, .load false 1 (.t 41), [], some (38, false)⟩,
    ⟨some 43, .bin .neq (.t 40) (.t 42), [], some (38, false)⟩,
    ⟨some 44, .pick (.t 38) (.k (.one (.iv (.bool true)))) (.t 43), [], none⟩,
    ⟨some 45, .mov none (.t 44), [], none⟩,
    ⟨some 46, .fad 4 (.t 6), [], some (45, false)⟩,
    ⟨some 47, .load false 1 (.t 46), [], some (45, false)⟩,
    ⟨some 48, .fad 4 (.t 7), [], some (45, false)⟩,
    ⟨some 49, .load false 1 (.t 48), [], some (45, false)⟩,
    ⟨some 50, .bin .neq (.t 47) (.t 49), [], some (45, false)⟩,
    ⟨some 51, .pick (.t 45) (.k (.one (.iv (.bool true)))) (.t 50), [], none⟩,
    ⟨some 52, .mov none (.t 51), [], none⟩,
    ⟨some 53, .fad 5 (.t 6), [], some (52, false)⟩,
    ⟨some 54, .load false 1 (.t 53), [], some (52, false)⟩,
    ⟨some 55, .fad 5 (.t 7), [], some (52, false)⟩,
    ⟨some 56, .load false 1 (.t 55), [], some (52, false)⟩,
    ⟨some 57, .bin .neq (.t 54) (.t 56), [], some (52, false)⟩,
    ⟨some 58, .pick (.t 52) (.k (.one (.iv (.bool true)))) (.t 57), [], none⟩,
    ⟨some 59, .mov none (.t 58), [], none⟩,
    ⟨some 60, .fad 6 (.t 6), [], some (59, false)⟩,
    ⟨some 61, .load false 1 (.t 60), [], some (59, false)⟩,
    ⟨some 62, .fad 6 (.t 7), [], some (59, false)⟩,
    ⟨some 63, .load false 1 (.t 62), [], some (59, false)⟩,
    ⟨some 64, .bin .neq (.t 61) (.t 63), [], some (59, false)⟩,
    ⟨some 65, .pick (.t 59) (.k (.one (.iv (.bool true)))) (.t 64), [], none⟩,
    ⟨some 66, .mov none (.t 65), [], none⟩,
    ⟨some 67, .fad 7 (.t 6), [], some (66, false)⟩,
    ⟨some 68, .load false 1 (.t 67), [], some (66, false)⟩,
    ⟨some 69, .blt .len [.t 68], [], some (66, false)⟩,
    ⟨some 70, .fad 7 (.t 7), [], some (66, false)⟩,
    ⟨some 71, .load false 1 (.t 70), [], some (66, false)⟩,
    ⟨some 72, .blt .len [.t 71], [], some (66, false)⟩,
    ⟨some 73, .bin .neq (.t 69) (.t 72), [], some (66, false)⟩,
    ⟨some 74, .pick (.t 66) (.k (.one (.iv (.bool true)))) (.t 73), [], none⟩])
  (.cond (.t 74) (.seq (.region false [⟨some 4, .mov none (.k (.one (.iv (.bool false)))), [], none⟩])
  (.ret)) (.skip)))
  (.seq (.region false [⟨some 75, .fad 7 (.t 6), [], none⟩,
    ⟨some 76, .load false 1 (.t 75), [], none⟩,
    ⟨some 77, .blt .len [.t 76], [], none⟩,
    ⟨some 78, .mov none (.k (.one (.iv (.int .i64 0)))), [], none⟩])
  (.block 2 (.loop false [1, 7, 15, 16, 17, 76, 77, 78] l65_1)))))))
  (.region false [⟨some 91, .bin .add (.t 17) (.k (.one (.iv (.int .i64 1)))), [], none⟩,
    ⟨some 17, .mov none (.t 91), [], none⟩])))
def b65 : VCode := .seq (.region false [⟨some 4, .mov none (.k (.one (.iv (.bool false)))), [], none⟩])
  (.seq (.seq (.region false [⟨some 10, .mov none (.t 0), [], none⟩,
    ⟨some 11, .blt .len [.t 10], [], none⟩,
    ⟨some 12, .mov none (.t 1), [], none⟩,
    ⟨some 13, .blt .len [.t 12], [], none⟩,
    ⟨some 14, .bin .neq (.t 11) (.t 13), [], none⟩])
  (.cond (.t 14) (.seq (.region false [⟨some 4, .mov none (.k (.one (.iv (.bool false)))), [], none⟩])
  (.ret)) (.skip)))
  (.seq (.seq (.region false [⟨some 15, .mov none (.t 0), [], none⟩,
    ⟨some 16, .blt .len [.t 15], [], none⟩,
    ⟨some 17, .mov none (.k (.one (.iv (.int .i64 0)))), [], none⟩])
  (.block 0 (.loop false [1, 15, 16, 17] l65_0)))
  (.seq (.region false [⟨some 4, .mov none (.k (.one (.iv (.bool true)))), [], none⟩])
  (.ret))))
def v65 : VFn := ⟨2, 92, [.t 4], b65⟩

theorem c65 : chkFn Try.prog 65 v65 = true := by kernel_rfl

/- scholia/past.SameEvents -/
def b69 : VCode := .seq (.region false [⟨some 4, .mov none (.k (.one (.iv (.bool false)))), [], none⟩])
  (.seq (.region false [⟨some 5, .mov none (.t 0), [], none⟩,
    ⟨some 6, .mov none (.t 1), [], none⟩,
    ⟨some 7, .call 103 [(false, .t 5), (false, .t 6), (false, .k (.one (.iv (.fn 104))))], [], none⟩,
    ⟨some 4, .mov none (.t 7), [], none⟩])
  (.ret))
def v69 : VFn := ⟨2, 8, [.t 4], b69⟩

theorem c69 : chkFn Try.prog 69 v69 = true := by kernel_rfl

/- scholia/past.PutEvent -/
def l70_0 : VCode := .seq (.region false [⟨some 43, .bin .lss (.t 42) (.t 41), [], none⟩])
  (.seq (.cond (.t 43) (.skip) (.exit 0))
  (.seq (.block 1 (.seq (.region false [⟨some 44, .ixS 2 (.t 40) (.t 42), [], none⟩,
    ⟨some 45, .load true 2 (.t 44), [], none⟩,
    ⟨some 7, .new [.iv (.int .i64 0), .iv (.int .i64 0)], [], none⟩,
    ⟨none, .store 2 (.t 7) (.t 45), [], none⟩])
  (.region false [⟨some 46, .mov none (.t 5), [], none⟩,
    ⟨some 47, .load true 2 (.t 7), [], none⟩,
    ⟨some 48, .call 106 [(false, .t 46), (false, .t 47)], [], none⟩,
    ⟨some 5, .mov none (.t 48), [], none⟩])))
  (.region false [⟨some 49, .bin .add (.t 42) (.k (.one (.iv (.int .i64 1)))), [], none⟩,
    ⟨some 42, .mov none (.t 49), [], none⟩])))
def b70 : VCode := .seq (.region false [⟨some 3, .box (.t 1), [], none⟩,
    ⟨some 4, .mov none (.k (.one (.iv (.sl true 0 [])))), [], none⟩])
  (.seq (.region false [⟨some 8, .mov none (.t 0), [], none⟩,
    ⟨some 9, .blt (.append 1 1) [.k (.one (.iv (.sl true 0 []))), .t 8], [], none⟩,
    ⟨some 5, .mov none (.t 9), [], none⟩])
  (.seq (.seq (.region false [⟨some 10, .load true 8 (.t 3), [], none⟩,
    ⟨some 11, .call 105 [(false, .t 10)], [], none⟩,
    ⟨some 12, .bin .neq (.t 11) (.k (.one (.iv (.int .i64 0)))), [], none⟩])
  (.cond (.t 12) (.seq (.region false [⟨some 13, .mov none (.t 5), [], none⟩,
    ⟨some 4, .mov none (.t 13), [], none⟩])
  (.ret)) (.skip)))
  (.seq (.region true [⟨some 14, .mov none (.t 5), [], none⟩,
    ⟨some 15, .fad 0 (.t 3), [], none⟩,
    ⟨some 16, .load true 2 (.t 15), [1], none⟩,
    ⟨some 17, .call 106 [(false, .t 14), (false, .t 16)], [2, 0], none⟩,
    ⟨some 18, .fad 2 (.t 3), [], none⟩,
    ⟨some 19, .load false 1 (.t 18), [4], none⟩,
    ⟨some 20, .call 90 [(false, .t 17), (false, .t 19)], [5, 3], none⟩,
    ⟨some 21, .fad 3 (.t 3), [], none⟩,
    ⟨some 22, .load false 1 (.t 21), [7], none⟩,
    ⟨some 23, .call 90 [(false, .t 20), (false, .t 22)], [8, 6], none⟩,
    ⟨some 5, .mov none (.t 23), [9], none⟩])
  (.seq (.region true [⟨some 24, .mov none (.t 5), [], none⟩,
    ⟨some 25, .fad 4 (.t 3), [], none⟩,
    ⟨some 26, .load false 1 (.t 25), [1], none⟩,
    ⟨some 27, .call 107 [(false, .t 24), (false, .t 26)], [2, 0], none⟩,
    ⟨some 28, .fad 5 (.t 3), [], none⟩,
    ⟨some 29, .load false 1 (.t 28), [4], none⟩,
    ⟨some 30, .call 90 [(false, .t 27), (false, .t 29)], [5, 3], none⟩,
    ⟨some 31, .fad 6 (.t 3), [], none⟩,
    ⟨some 32, .load false 1 (.t 31), [7], none⟩,
    ⟨some 33, .call 107 [(false, .t 30), (false, .t 32)], [8, 6], none⟩,
    ⟨some 5, .mov none (.t 33), [9], none⟩])
  (.seq (.region false [⟨some 34, .mov none (.t 5), [], none⟩,
    ⟨some 35, .fad 7 (.t 3), [], none⟩,
    ⟨some 36, .load false 1 (.t 35), [], none⟩,
    ⟨some 37, .blt .len [.t 36], [], none⟩,
    ⟨some 38, .call 90 [(false, .t 34), (false, .t 37)], [], none⟩,
    ⟨some 5, .mov none (.t 38), [], none⟩])
  (.seq (.seq (.region false [⟨some 39, .fad 7 (.t 3), [], none⟩,
    ⟨some 40, .load false 1 (.t 39), [], none⟩,
    ⟨some 41, .blt .len [.t 40], [], none⟩,
    ⟨some 42, .mov none (.k (.one (.iv (.int .i64 0)))), [], none⟩])
  (.block 0 (.loop false [5, 40, 41, 42] l70_0)))
  (.seq (.region false [⟨some 50, .mov none (.t 5), [], none⟩,
    ⟨some 4, .mov none (.t 50), [], none⟩])
  (.ret))))))))
def v70 : VFn := ⟨2, 51, [.t 4], b70⟩

theorem c70 : chkFn Try.prog 70 v70 = true := by kernel_rfl

/- scholia/past.ReadEvent -/
def l71_0 : VCode := .seq (.seq (.region false [⟨some 25, .mov none (.t 4), [], none⟩,
    ⟨some 26, .bin .gtr (.t 25) (.k (.one (.iv (.int .i64 0)))), [], none⟩,
    ⟨some 27, .mov none (.t 26), [], none⟩,
    ⟨some 28, .mov none (.t 0), [], some (27, true)⟩,
    ⟨some 29, .call 47 [(false, .t 28)], [], some (27, true)⟩,
    ⟨some 30, .bin .eql (.t 29) (.k (.one (.iv (.int .i64 0)))), [], some (27, true)⟩,
    ⟨some 31, .pick (.t 27) (.t 30) (.k (.one (.iv (.bool false)))), [], none⟩])
  (.cond (.t 31) (.skip) (.exit 0)))
  (.seq (.block 1 (.region true [⟨some 34, .fad 7 (.t 3), [], none⟩,
    ⟨some 35, .load false 1 (.t 34), [0], none⟩,
    ⟨some 36, .mov none (.t 0), [], none⟩,
    ⟨some 37, .call 108 [(false, .t 36)], [2], none⟩,
    ⟨some 38, .mks false 2 [.t 37], [3], none⟩,
    ⟨some 39, .blt (.append 2 16) [.t 35, .t 38], [4, 1], none⟩,
    ⟨some 40, .fad 7 (.t 3), [5], none⟩,
    ⟨none, .store 1 (.t 40) (.t 39), [6], none⟩]))
  (.region false [⟨some 32, .mov none (.t 4), [], none⟩,
    ⟨some 33, .bin .sub (.t 32) (.k (.one (.iv (.int .i64 1)))), [], none⟩,
    ⟨some 4, .mov none (.t 33), [], none⟩]))
def b71 : VCode := .seq (.region false [⟨some 2, .new [.iv (.int .i64 0), .iv (.int .i64 0), .iv (.int .i64 0), .iv (.int .i64 0), .iv (.str ⟨#[]⟩), .iv (.int .i64 0), .iv (.str ⟨#[]⟩), .iv (.sl true 0 [])], [], none⟩])
  (.seq (.region false [⟨some 5, .mov none (.t 0), [], none⟩,
    ⟨some 6, .call 108 [(false, .t 5)], [], none⟩,
    ⟨some 7, .build [.iv (.int .i64 0), .iv (.int .i64 0), .iv (.int .i64 0), .iv (.int .i64 0), .iv (.str ⟨#[]⟩), .iv (.int .i64 0), .iv (.str ⟨#[]⟩), .fresh 2] [(0, 2, .t 6)], [], none⟩,
    ⟨some 3, .new [.iv (.int .i64 0), .iv (.int .i64 0), .iv (.int .i64 0), .iv (.int .i64 0), .iv (.str ⟨#[]⟩), .iv (.int .i64 0), .iv (.str ⟨#[]⟩), .iv (.sl true 0 [])], [], none⟩,
    ⟨none, .store 8 (.t 3) (.t 7), [], none⟩])
  (.seq (.region false [⟨some 8, .mov none (.t 0), [], none⟩,
    ⟨some 9, .call 92 [(false, .t 8), (false, .k (.one (.iv (.int .i64 1099511627776))))], [], none⟩,
    ⟨some 10, .fad 2 (.t 3), [], none⟩,
    ⟨none, .store 1 (.t 10) (.t 9), [], none⟩])
  (.seq (.region false [⟨some 11, .mov none (.t 0), [], none⟩,
    ⟨some 12, .call 92 [(false, .t 11), (false, .k (.one (.iv (.int .i64 2))))], [], none⟩,
    ⟨some 13, .fad 3 (.t 3), [], none⟩,
    ⟨none, .store 1 (.t 13) (.t 12), [], none⟩])
  (.seq (.region false [⟨some 14, .mov none (.t 0), [], none⟩,
    ⟨some 15, .call 109 [(false, .t 14), (false, .k (.one (.iv (.int .i64 12))))], [], none⟩,
    ⟨some 16, .fad 4 (.t 3), [], none⟩,
    ⟨none, .store 1 (.t 16) (.t 15), [], none⟩])
  (.seq (.region false [⟨some 17, .mov none (.t 0), [], none⟩,
    ⟨some 18, .call 92 [(false, .t 17), (false, .k (.one (.iv (.int .i64 4))))], [], none⟩,
    ⟨some 19, .fad 5 (.t 3), [], none⟩,
    ⟨none, .store 1 (.t 19) (.t 18), [], none⟩])
  (.seq (.region false [⟨some 20, .mov none (.t 0), [], none⟩,
    ⟨some 21, .call 109 [(false, .t 20), (false, .k (.one (.iv (.int .i64 160))))], [], none⟩,
    ⟨some 22, .fad 6 (.t 3), [], none⟩,
    ⟨none, .store 1 (.t 22) (.t 21), [], none⟩])
  (.seq (.seq (.region false [⟨some 23, .mov none (.t 0), [], none⟩,
    ⟨some 24, .call 92 [(false, .t 23), (false, .k (.one (.iv (.int .i64 120))))], [], none⟩,
    ⟨some 4, .mov none (.t 24), [], none⟩])
  (.block 0 (.loop false [0, 2, 3, 4] l71_0)))
  (.seq (.seq (.region false [⟨some 41, .mov none (.t 0), [], none⟩,
    ⟨some 42, .call 47 [(false, .t 41)], [], none⟩,
    ⟨some 43, .bin .eql (.t 42) (.k (.one (.iv (.int .i64 0)))), [], none⟩,
    ⟨some 44, .mov none (.t 43), [], none⟩,
    ⟨some 45, .load true 8 (.t 3), [], some (44, true)⟩,
    ⟨some 46, .call 105 [(false, .t 45)], [], some (44, true)⟩,
    ⟨some 47, .bin .neq (.t 46) (.k (.one (.iv (.int .i64 0)))), [], some (44, true)⟩,
    ⟨some 48, .pick (.t 44) (.t 47) (.k (.one (.iv (.bool false)))), [], none⟩])
  (.cond (.t 48) (.region false [⟨some 49, .mov none (.t 0), [], none⟩,
    ⟨some 50, .call 110 [(false, .t 49), (false, .k (.one (.iv (.int .i64 3))))], [], none⟩]) (.skip)))
  (.seq (.seq (.region false [⟨some 51, .mov none (.t 0), [], none⟩,
    ⟨some 52, .call 47 [(false, .t 51)], [], none⟩,
    ⟨some 53, .bin .neq (.t 52) (.k (.one (.iv (.int .i64 0)))), [], none⟩])
  (.cond (.t 53) (.seq (.region false [⟨some 54, .build [.iv (.int .i64 0), .iv (.int .i64 0), .iv (.int .i64 0), .iv (.int .i64 0), .iv (.str ⟨#[]⟩), .iv (.int .i64 0), .iv (.str ⟨#[]⟩), .iv (.sl true 0 [])] [], [], none⟩,
    ⟨none, .store 8 (.t 2) (.t 54), [], none⟩])
  (.ret)) (.skip)))
  (.seq (.region false [⟨some 55, .load true 8 (.t 3), [], none⟩,
    ⟨none, .store 8 (.t 2) (.t 55), [], none⟩])
  (.ret)))))))))))
def v71 : VFn := ⟨1, 56, [.c 2 true 8], b71⟩

theorem c71 : chkFn Try.prog 71 v71 = true := by kernel_rfl

/- scholia/past.PutEvents -/
def l72_0 : VCode := .seq (.region false [⟨some 15, .bin .lss (.t 14) (.t 13), [], none⟩])
  (.seq (.cond (.t 15) (.skip) (.exit 0))
  (.seq (.block 1 (.seq (.region false [⟨some 16, .ixS 8 (.t 12) (.t 14), [], none⟩,
    ⟨some 17, .load true 8 (.t 16), [], none⟩,
    ⟨some 7, .new [.iv (.int .i64 0), .iv (.int .i64 0), .iv (.int .i64 0), .iv (.int .i64 0), .iv (.str ⟨#[]⟩), .iv (.int .i64 0), .iv (.str ⟨#[]⟩), .iv (.sl true 0 [])], [], none⟩,
    ⟨none, .store 8 (.t 7) (.t 17), [], none⟩])
  (.region false [⟨some 18, .mov none (.t 5), [], none⟩,
    ⟨some 19, .load true 8 (.t 7), [], none⟩,
    ⟨some 20, .call 70 [(false, .t 18), (false, .t 19)], [], none⟩,
    ⟨some 5, .mov none (.t 20), [], none⟩])))
  (.region false [⟨some 21, .bin .add (.t 14) (.k (.one (.iv (.int .i64 1)))), [], none⟩,
    ⟨some 14, .mov none (.t 21), [], none⟩])))
def b72 : VCode := .seq (.region false [⟨some 4, .mov none (.k (.one (.iv (.sl true 0 [])))), [], none⟩])
  (.seq (.region false [⟨some 8, .mov none (.t 0), [], none⟩,
    ⟨some 9, .mov none (.t 1), [], none⟩,
    ⟨some 10, .blt .len [.t 9], [], none⟩,
    ⟨some 11, .call 90 [(false, .t 8), (false, .t 10)], [], none⟩,
    ⟨some 5, .mov none (.t 11), [], none⟩])
  (.seq (.seq (.region false [⟨some 12, .mov none (.t 1), [], none⟩,
    ⟨some 13, .blt .len [.t 12], [], none⟩,
    ⟨some 14, .mov none (.k (.one (.iv (.int .i64 0)))), [], none⟩])
  (.block 0 (.loop false [5, 12, 13, 14] l72_0)))
  (.seq (.region false [⟨some 22, .mov none (.t 5), [], none⟩,
    ⟨some 4, .mov none (.t 22), [], none⟩])
  (.ret))))
def v72 : VFn := ⟨2, 23, [.t 4], b72⟩

theorem c72 : chkFn Try.prog 72 v72 = true := by kernel_rfl

/- scholia/scholiaref13.PutEvents -/
def l73_0 : VCode := .seq (.region false [⟨some 15, .bin .lss (.t 14) (.t 13), [], none⟩])
  (.seq (.cond (.t 15) (.skip) (.exit 0))
  (.seq (.block 1 (.seq (.region false [⟨some 16, .ixS 8 (.t 12) (.t 14), [], none⟩,
    ⟨some 17, .load true 8 (.t 16), [], none⟩,
    ⟨some 7, .new [.iv (.int .i64 0), .iv (.int .i64 0), .iv (.int .i64 0), .iv (.int .i64 0), .iv (.str ⟨#[]⟩), .iv (.int .i64 0), .iv (.str ⟨#[]⟩), .iv (.sl true 0 [])], [], none⟩,
    ⟨none, .store 8 (.t 7) (.t 17), [], none⟩])
  (.region false [⟨some 18, .mov none (.t 5), [], none⟩,
    ⟨some 19, .load true 8 (.t 7), [], none⟩,
    ⟨some 20, .call 111 [(false, .t 18), (false, .t 19)], [], none⟩,
    ⟨some 5, .mov none (.t 20), [], none⟩])))
  (.region false [⟨some 21, .bin .add (.t 14) (.k (.one (.iv (.int .i64 1)))), [], none⟩,
    ⟨some 14, .mov none (.t 21), [], none⟩])))
def b73 : VCode := .seq (.region false [⟨some 4, .mov none (.k (.one (.iv (.sl true 0 [])))), [], none⟩])
  (.seq (.region false [⟨some 8, .mov none (.t 0), [], none⟩,
    ⟨some 9, .mov none (.t 1), [], none⟩,
    ⟨some 10, .blt .len [.t 9], [], none⟩,
    ⟨some 11, .call 94 [(false, .t 8), (false, .t 10)], [], none⟩,
    ⟨some 5, .mov none (.t 11), [], none⟩])
  (.seq (.seq (.region false [⟨some 12, .mov none (.t 1), [], none⟩,
    ⟨some 13, .blt .len [.t 12], [], none⟩,
    ⟨some 14, .mov none (.k (.one (.iv (.int .i64 0)))), [], none⟩])
  (.block 0 (.loop false [5, 12, 13, 14] l73_0)))
  (.seq (.region false [⟨some 22, .mov none (.t 5), [], none⟩,
    ⟨some 4, .mov none (.t 22), [], none⟩])
  (.ret))))
def v73 : VFn := ⟨2, 23, [.t 4], b73⟩

theorem c73 : chkFn Try.prog 73 v73 = true := by kernel_rfl

/- scholia/past.ReadEvents -/
def l74_0 : VCode := .seq (.seq (.region false [⟨some 10, .mov none (.t 6), [], none⟩,
    ⟨some 11, .bin .gtr (.t 10) (.k (.one (.iv (.int .i64 0)))), [], none⟩,
    ⟨some 12, .mov none (.t 11), [], none⟩,
    ⟨some 13, .mov none (.t 0), [], some (12, true)⟩,
    ⟨some 14, .call 47 [(false, .t 13)], [], some (12, true)⟩,
    ⟨some 15, .bin .eql (.t 14) (.k (.one (.iv (.int .i64 0)))), [], some (12, true)⟩,
    ⟨some 16, .pick (.t 12) (.t 15) (.k (.one (.iv (.bool false)))), [], none⟩])
  (.cond (.t 16) (.skip) (.exit 0)))
  (.seq (.block 1 (.region false [⟨some 19, .mov none (.t 5), [], none⟩,
    ⟨some 20, .mov none (.t 0), [], none⟩,
    ⟨some 21, .call 71 [(false, .t 20)], [], none⟩,
    ⟨some 22, .mks false 8 [.t 21], [], none⟩,
    ⟨some 23, .blt (.append 8 96) [.t 19, .t 22], [], none⟩,
    ⟨some 5, .mov none (.t 23), [], none⟩]))
  (.region false [⟨some 17, .mov none (.t 6), [], none⟩,
    ⟨some 18, .bin .sub (.t 17) (.k (.one (.iv (.int .i64 1)))), [], none⟩,
    ⟨some 6, .mov none (.t 18), [], none⟩]))
def b74 : VCode := .seq (.region false [⟨some 4, .mov none (.k (.one (.iv (.sl true 0 [])))), [], none⟩])
  (.seq (.region false [⟨some 5, .mov (some 8) (.k (.one (.iv (.sl true 0 [])))), [], none⟩])
  (.seq (.seq (.region false [⟨some 7, .mov none (.t 0), [], none⟩,
    ⟨some 8, .mov none (.t 1), [], none⟩,
    ⟨some 9, .call 92 [(false, .t 7), (false, .t 8)], [], none⟩,
    ⟨some 6, .mov none (.t 9), [], none⟩])
  (.block 0 (.loop false [0, 5, 6] l74_0)))
  (.seq (.seq (.region false [⟨some 24, .mov none (.t 0), [], none⟩,
    ⟨some 25, .call 47 [(false, .t 24)], [], none⟩,
    ⟨some 26, .bin .neq (.t 25) (.k (.one (.iv (.int .i64 0)))), [], none⟩])
  (.cond (.t 26) (.seq (.region false [⟨some 4, .mov none (.k (.one (.iv (.sl true 0 [])))), [], none⟩])
  (.ret)) (.skip)))
  (.seq (.region false [⟨some 27, .mov none (.t 5), [], none⟩,
    ⟨some 4, .mov none (.t 27), [], none⟩])
  (.ret)))))
def v74 : VFn := ⟨2, 28, [.t 4], b74⟩

theorem c74 : chkFn Try.prog 74 v74 = true := by kernel_rfl

/- scholia/scholiaref13.ReadEvents -/
def l75_0 : VCode := .seq (.region false [⟨some 13, .bin .lss (.t 12) (.t 11), [], none⟩])
  (.seq (.cond (.t 13) (.skip) (.exit 0))
  (.seq (.block 1 (.seq (.region false [⟨some 14, .mov none (.t 0), [], none⟩,
    ⟨some 15, .call 112 [(false, .t 14)], [], none⟩,
    ⟨some 7, .new [.iv (.int .i64 0), .iv (.int .i64 0), .iv (.int .i64 0), .iv (.int .i64 0), .iv (.str ⟨#[]⟩), .iv (.int .i64 0), .iv (.str ⟨#[]⟩), .iv (.sl true 0 [])], [], none⟩,
    ⟨none, .store 8 (.t 7) (.t 15), [], none⟩])
  (.seq (.seq (.region false [⟨some 16, .mov none (.t 0), [], none⟩,
    ⟨some 17, .nilc (.t 16), [], none⟩,
    ⟨some 18, .fad 1 (.t 17), [], none⟩,
    ⟨some 19, .load false 1 (.t 18), [], none⟩,
    ⟨some 20, .bin .neq (.t 19) (.k (.one (.iv (.int .i64 0)))), [], none⟩])
  (.cond (.t 20) (.seq (.region false [⟨some 4, .mov none (.k (.one (.iv (.sl true 0 [])))), [], none⟩])
  (.ret)) (.skip)))
  (.region false [⟨some 21, .mov none (.t 6), [], none⟩,
    ⟨some 22, .load true 8 (.t 7), [], none⟩,
    ⟨some 23, .mks false 8 [.t 22], [], none⟩,
    ⟨some 24, .blt (.append 8 96) [.t 21, .t 23], [], none⟩,
    ⟨some 6, .mov none (.t 24), [], none⟩]))))
  (.region false [⟨some 25, .bin .add (.t 12) (.k (.one (.iv (.int .i64 1)))), [], none⟩,
    ⟨some 12, .mov none (.t 25), [], none⟩])))
def b75 : VCode := .seq (.region false [⟨some 4, .mov none (.k (.one (.iv (.sl true 0 [])))), [], none⟩])
  (.seq (.region false [⟨some 8, .mov none (.t 0), [], none⟩,
    ⟨some 9, .mov none (.t 1), [], none⟩,
    ⟨some 10, .call 96 [(false, .t 8), (false, .t 9)], [], none⟩,
    ⟨some 5, .mov none (.t 10), [], none⟩])
  (.seq (.region false [⟨some 6, .mov (some 8) (.k (.one (.iv (.sl true 0 [])))), [], none⟩])
  (.seq (.seq (.region false [⟨some 11, .mov none (.t 5), [], none⟩,
    ⟨some 12, .mov none (.k (.one (.iv (.int .i64 0)))), [], none⟩])
  (.block 0 (.loop false [0, 6, 11, 12] l75_0)))
  (.seq (.region false [⟨some 26, .mov none (.t 6), [], none⟩,
    ⟨some 4, .mov none (.t 26), [], none⟩])
  (.ret)))))
def v75 : VFn := ⟨2, 27, [.t 4], b75⟩

theorem c75 : chkFn Try.prog 75 v75 = true := by kernel_rfl

/- cmp.Or[int] -/
def l76_0 : VCode := .seq (.region false [⟨some 9, .bin .lss (.t 8) (.t 7), [], none⟩])
  (.seq (.cond (.t 9) (.skip) (.exit 0))
  (.seq (.block 1 (.seq (.region false [⟨some 10, .ixS 1 (.t 6) (.t 8), [], none⟩,
    ⟨some 11, .load false 1 (.t 10), [], none⟩,
    ⟨some 5, .mov none (.t 11), [], none⟩])
  (.seq (.region false [⟨some 12, .mov none (.t 5), [], none⟩,
    ⟨some 13, .mov none (.t 3), [], none⟩,
    ⟨some 14, .bin .neq (.t 12) (.t 13), [], none⟩])
  (.cond (.t 14) (.seq (.region false [⟨some 15, .mov none (.t 5), [], none⟩,
    ⟨some 2, .mov none (.t 15), [], none⟩])
  (.ret)) (.skip)))))
  (.region false [⟨some 16, .bin .add (.t 8) (.k (.one (.iv (.int .i64 1)))), [], none⟩,
    ⟨some 8, .mov none (.t 16), [], none⟩])))
def b76 : VCode := .seq (.region false [⟨some 2, .mov none (.k (.one (.iv (.int .i64 0)))), [], none⟩])
  (.seq (.region false [⟨some 3, .mov none (.k (.one (.iv (.int .i64 0)))), [], none⟩])
  (.seq (.seq (.region false [⟨some 6, .mov none (.t 0), [], none⟩,
    ⟨some 7, .blt .len [.t 6], [], none⟩,
    ⟨some 8, .mov none (.k (.one (.iv (.int .i64 0)))), [], none⟩])
  (.block 0 (.loop false [3, 6, 7, 8] l76_0)))
  (.seq (.region false [⟨some 17, .mov none (.t 3), [], none⟩,
    ⟨some 2, .mov none (.t 17), [], none⟩])
  (.ret))))
def v76 : VFn := ⟨1, 18, [.t 2], b76⟩

theorem c76 : chkFn Try.prog 76 v76 = true := by kernel_rfl

/- cmp.Compare[int] -/
def b77 : VCode := .seq (.region false [⟨some 4, .mov none (.k (.one (.iv (.int .i64 0)))), [], none⟩])
  (.seq (.region false [⟨some 7, .mov none (.t 0), [], none⟩,
    ⟨some 8, .call 113 [(false, .t 7)], [], none⟩,
    ⟨some 5, .mov none (.t 8), [], none⟩])
  (.seq (.region false [⟨some 9, .mov none (.t 1), [], none⟩,
    ⟨some 10, .call 113 [(false, .t 9)], [], none⟩,
    ⟨some 6, .mov none (.t 10), [], none⟩])
  (.seq (.seq (.region false [⟨some 11, .mov none (.t 5), [], none⟩])
  (.cond (.t 11) (.seq (.seq (.region false [⟨some 12, .mov none (.t 6), [], none⟩])
  (.cond (.t 12) (.seq (.region false [⟨some 4, .mov none (.k (.one (.iv (.int .i64 0)))), [], none⟩])
  (.ret)) (.skip)))
  (.seq (.region false [⟨some 4, .mov none (.k (.one (.iv (.int .i64 (-1))))), [], none⟩])
  (.ret))) (.skip)))
  (.seq (.seq (.region false [⟨some 13, .mov none (.t 6), [], none⟩])
  (.cond (.t 13) (.seq (.region false [⟨some 4, .mov none (.k (.one (.iv (.int .i64 1)))), [], none⟩])
  (.ret)) (.skip)))
  (.seq (.seq (.region false [⟨some 14, .mov none (.t 0), [], none⟩,
    ⟨some 15, .mov none (.t 1), [], none⟩,
    ⟨some 16, .bin .lss (.t 14) (.t 15), [], none⟩])
  (.cond (.t 16) (.seq (.region false [⟨some 4, .mov none (.k (.one (.iv (.int .i64 (-1))))), [], none⟩])
  (.ret)) (.skip)))
  (.seq (.seq (.region false [⟨some 17, .mov none (.t 0), [], none⟩,
    ⟨some 18, .mov none (.t 1), [], none⟩,
    ⟨some 19, .bin .gtr (.t 17) (.t 18), [], none⟩])
  (.cond (.t 19) (.seq (.region false [⟨some 4, .mov none (.k (.one (.iv (.int .i64 1)))), [], none⟩])
  (.ret)) (.skip)))
  (.seq (.region false [⟨some 4, .mov none (.k (.one (.iv (.int .i64 0)))), [], none⟩])
  (.ret))))))))
def v77 : VFn := ⟨2, 20, [.t 4], b77⟩

theorem c77 : chkFn Try.prog 77 v77 = true := by kernel_rfl

/- scholia/dots.good -/
def b81 : VCode := .seq (.region false [⟨some 1, .box (.t 0), [], none⟩,
    ⟨some 2, .mov none (.k (.one (.iv (.bool false)))), [], none⟩])
  (.seq (.region false [⟨some 3, .slA 1 64 (.t 1), [], none⟩,
    ⟨some 4, .call 114 [(false, .t 3), (false, .k (.one (.iv (.fn 115))))], [], none⟩,
    ⟨some 5, .un .not (.t 4), [], none⟩,
    ⟨some 2, .mov none (.t 5), [], none⟩])
  (.ret))
def v81 : VFn := ⟨1, 6, [.t 2], b81⟩

theorem c81 : chkFn Try.prog 81 v81 = true := by kernel_rfl

/- slices.DeleteFunc[[]scholia/api.Dot,scholia/api.Dot] -/
def l82_0 : VCode := .seq (.seq (.region false [⟨some 16, .mov none (.t 6), [], none⟩,
    ⟨some 17, .mov none (.t 0), [], none⟩,
    ⟨some 18, .blt .len [.t 17], [], none⟩,
    ⟨some 19, .bin .lss (.t 16) (.t 18), [], none⟩])
  (.cond (.t 19) (.skip) (.exit 0)))
  (.seq (.block 1 (.seq (.region false [⟨some 22, .mov none (.t 0), [], none⟩,
    ⟨some 23, .mov none (.t 6), [], none⟩,
    ⟨some 24, .ixS 2 (.t 22) (.t 23), [], none⟩,
    ⟨some 25, .load true 2 (.t 24), [], none⟩,
    ⟨some 7, .new [.iv (.int .i64 0), .iv (.int .i64 0)], [], none⟩,
    ⟨none, .store 2 (.t 7) (.t 25), [], none⟩])
  (.seq (.region false [⟨some 26, .mov none (.t 1), [], none⟩,
    ⟨some 27, .load true 2 (.t 7), [], none⟩,
    ⟨some 28, .callv (.t 26) [(false, .t 27)], [], none⟩,
    ⟨some 29, .un .not (.t 28), [], none⟩])
  (.cond (.t 29) (.seq (.region false [⟨some 30, .mov none (.t 0), [], none⟩,
    ⟨some 31, .mov none (.t 5), [], none⟩,
    ⟨some 32, .load true 2 (.t 7), [], none⟩,
    ⟨some 33, .ixS 2 (.t 30) (.t 31), [], none⟩,
    ⟨none, .store 2 (.t 33) (.t 32), [], none⟩])
  (.region false [⟨some 34, .mov none (.t 5), [], none⟩,
    ⟨some 35, .bin .add (.t 34) (.k (.one (.iv (.int .i64 1)))), [], none⟩,
    ⟨some 5, .mov none (.t 35), [], none⟩])) (.skip)))))
  (.region false [⟨some 20, .mov none (.t 6), [], none⟩,
    ⟨some 21, .bin .add (.t 20) (.k (.one (.iv (.int .i64 1)))), [], none⟩,
    ⟨some 6, .mov none (.t 21), [], none⟩]))
def b82 : VCode := .seq (.region false [⟨some 4, .mov none (.k (.one (.iv (.sl true 0 [])))), [], none⟩])
  (.seq (.region false [⟨some 8, .mov none (.t 0), [], none⟩,
    ⟨some 9, .mov none (.t 1), [], none⟩,
    ⟨some 10, .call 116 [(false, .t 8), (false, .t 9)], [], none⟩,
    ⟨some 5, .mov none (.t 10), [], none⟩])
  (.seq (.seq (.region false [⟨some 11, .mov none (.t 5), [], none⟩,
    ⟨some 12, .bin .eql (.t 11) (.k (.one (.iv (.int .i64 (-1))))), [], none⟩])
  (.cond (.t 12) (.seq (.region false [⟨some 13, .mov none (.t 0), [], none⟩,
    ⟨some 4, .mov none (.t 13), [], none⟩])
  (.ret)) (.skip)))
  (.seq (.seq (.region false [⟨some 14, .mov none (.t 5), [], none⟩,
    ⟨some 15, .bin .add (.t 14) (.k (.one (.iv (.int .i64 1)))), [], none⟩,
    ⟨some 6, .mov none (.t 15), [], none⟩])
  (.block 0 (.loop false [0, 1, 5, 6] l82_0)))
  (.seq (.region false [⟨some 36, .mov none (.t 0), [], none⟩,
    ⟨some 37, .mov none (.t 5), [], none⟩,
    ⟨some 38, .slS 2 (.t 36) (some (.t 37)) none none, [], none⟩,
    ⟨none, .blt (.clear [(.int .i64 0), (.int .i64 0)]) [.t 38], [], none⟩])
  (.seq (.region false [⟨some 39, .mov none (.t 0), [], none⟩,
    ⟨some 40, .mov none (.t 5), [], none⟩,
    ⟨some 41, .slS 2 (.t 39) none (some (.t 40)) none, [], none⟩,
    ⟨some 4, .mov none (.t 41), [], none⟩])
  (.ret))))))
def v82 : VFn := ⟨2, 42, [.t 4], b82⟩

theorem c82 : chkFn Try.prog 82 v82 = true := by kernel_rfl

/- scholia/dots.Tidy$1 -/
def b84 : VCode := .seq (.region false [⟨some 1, .box (.t 0), [], none⟩,
    ⟨some 2, .mov none (.k (.one (.iv (.bool false)))), [], none⟩])
  (.seq (.region false [⟨some 3, .load true 2 (.t 1), [], none⟩,
    ⟨some 4, .call 18 [(false, .t 3)], [], none⟩,
    ⟨some 5, .un .not (.t 4), [], none⟩,
    ⟨some 2, .mov none (.t 5), [], none⟩])
  (.ret))
def v84 : VFn := ⟨1, 6, [.t 2], b84⟩

theorem c84 : chkFn Try.prog 84 v84 = true := by kernel_rfl

/- slices.SortFunc[[]scholia/api.Dot,scholia/api.Dot] -/
def b85 : VCode := .seq (.region false [⟨some 5, .mov none (.t 0), [], none⟩,
    ⟨some 6, .blt .len [.t 5], [], none⟩,
    ⟨some 4, .mov none (.t 6), [], none⟩])
  (.region false [⟨some 7, .mov none (.t 0), [], none⟩,
    ⟨some 8, .mov none (.t 4), [], none⟩,
    ⟨some 9, .mov none (.t 4), [], none⟩,
    ⟨some 10, .conv .u64 (.t 9), [], none⟩,
    ⟨some 11, .call 118 [(false, .t 10)], [], none⟩,
    ⟨some 12, .mov none (.t 1), [], none⟩,
    ⟨some 13, .call 117 [(true, .t 7), (false, .k (.one (.iv (.int .i64 0)))), (false, .t 8), (false, .t 11), (false, .t 12)], [], none⟩])
def v85 : VFn := ⟨2, 14, [], b85⟩

theorem c85 : chkFn Try.prog 85 v85 = true := by kernel_rfl

/- slices.Equal[[]scholia/api.Dot,scholia/api.Dot] -/
def l88_0 : VCode := .seq (.region false [⟨some 14, .bin .lss (.t 13) (.t 12), [], none⟩])
  (.seq (.cond (.t 14) (.skip) (.exit 0))
  (.seq (.block 1 (.seq (.region false [⟨some 15, .mov none (.t 13), [], none⟩,
    ⟨some 5, .mov none (.t 15), [], none⟩])
  (.seq (.region true [⟨some 16, .mov none (.t 0), [], none⟩,
    ⟨some 17, .mov none (.t 5), [], none⟩,
    ⟨some 18, .ixS 2 (.t 16) (.t 17), [1, 0], none⟩,
    ⟨some 19, .load true 2 (.t 18), [2], none⟩,
    ⟨some 20, .mov none (.t 1), [], none⟩,
    ⟨some 21, .mov none (.t 5), [], none⟩,
    ⟨some 22, .ixS 2 (.t 20) (.t 21), [5, 4], none⟩,
    ⟨some 23, .load true 2 (.t 22), [6], none⟩,
    ⟨some 24, .eqa .neq ([.int] ++ [.int]) (.t 19) (.t 23), [7, 3], none⟩])
  (.cond (.t 24) (.seq (.region false [⟨some 4, .mov none (.k (.one (.iv (.bool false)))), [], none⟩])
  (.ret)) (.skip)))))
  (.region false [⟨some 25, .bin .add (.t 13) (.k (.one (.iv (.int .i64 1)))), [], none⟩,
    ⟨some 13, .mov none (.t 25), [], none⟩])))
def b88 : VCode := .seq (.region false [⟨some 4, .mov none (.k (.one (.iv (.bool false)))), [], none⟩])
  (.seq (.seq (.region false [⟨some 6, .mov none (.t 0), [], none⟩,
    ⟨some 7, .blt .len [.t 6], [], none⟩,
    ⟨some 8, .mov none (.t 1), [], none⟩,
    ⟨some 9, .blt .len [.t 8], [], none⟩,
    ⟨some 10, .bin .neq (.t 7) (.t 9), [], none⟩])
  (.cond (.t 10) (.seq (.region false [⟨some 4, .mov none (.k (.one (.iv (.bool false)))), [], none⟩])
  (.ret)) (.skip)))
  (.seq (.seq (.region false [⟨some 11, .mov none (.t 0), [], none⟩,
    ⟨some 12, .blt .len [.t 11], [], none⟩,
    ⟨some 13, .mov none (.k (.one (.iv (.int .i64 0)))), [], none⟩])
  (.block 0 (.loop false [0, 1, 12, 13] l88_0)))
  (.seq (.region false [⟨some 4, .mov none (.k (.one (.iv (.bool true)))), [], none⟩])
  (.ret))))
def v88 : VFn := ⟨2, 26, [.t 4], b88⟩

theorem c88 : chkFn Try.prog 88 v88 = true := by kernel_rfl

/- scholia/coder.Rising -/
def l89_0 : VCode := .seq (.seq (.region false [⟨some 10, .mov none (.t 5), [], none⟩,
    ⟨some 11, .mov none (.t 1), [], none⟩,
    ⟨some 12, .blt .len [.t 11], [], none⟩,
    ⟨some 13, .bin .lss (.t 10) (.t 12), [], none⟩,
    ⟨some 14, .mov none (.t 13), [], none⟩,
    ⟨some 15, .mov none (.t 1), [], some (14, true)⟩,
    ⟨some 16, .mov none (.t 5), [], some (14, true)⟩,
    ⟨some 17, .ixS 1 (.t 15) (.t 16), [], some (14, true)⟩,
    ⟨some 18, .load false 1 (.t 17), [], some (14, true)⟩,
    ⟨some 19, .mov none (.t 6), [], some (14, true)⟩,
    ⟨some 20, .bin .gtr (.t 18) (.t 19), [], some (14, true)⟩,
    ⟨some 21, .pick (.t 14) (.t 20) (.k (.one (.iv (.bool false)))), [], none⟩])
  (.cond (.t 21) (.skip) (.exit 0)))
  (.block 1 (.seq (.region false [⟨some 22, .mov none (.t 1), [], none⟩,
    ⟨some 23, .mov none (.t 5), [], none⟩,
    ⟨some 24, .ixS 1 (.t 22) (.t 23), [], none⟩,
    ⟨some 25, .load false 1 (.t 24), [], none⟩,
    ⟨some 6, .mov none (.t 25), [], none⟩])
  (.region false [⟨some 26, .mov none (.t 5), [], none⟩,
    ⟨some 27, .bin .add (.t 26) (.k (.one (.iv (.int .i64 1)))), [], none⟩,
    ⟨some 5, .mov none (.t 27), [], none⟩])))
def l89_1 : VCode := .seq (.region false [⟨some 36, .bin .lss (.t 35) (.t 34), [], none⟩])
  (.seq (.cond (.t 36) (.skip) (.exit 2))
  (.seq (.block 3 (.seq (.region false [⟨some 37, .ixS 1 (.t 33) (.t 35), [], none⟩,
    ⟨some 38, .load false 1 (.t 37), [], none⟩,
    ⟨some 9, .mov none (.t 38), [], none⟩])
  (.seq (.region false [⟨some 39, .mov none (.t 7), [], none⟩,
    ⟨some 40, .mov none (.t 9), [], none⟩,
    ⟨some 41, .mov none (.t 6), [], none⟩,
    ⟨some 42, .bin .sub (.t 40) (.t 41), [], none⟩,
    ⟨some 43, .bin .sub (.t 42) (.k (.one (.iv (.int .i64 1)))), [], none⟩,
    ⟨some 44, .call 90 [(false, .t 39), (false, .t 43)], [], none⟩,
    ⟨some 7, .mov none (.t 44), [], none⟩])
  (.region false [⟨some 45, .mov none (.t 9), [], none⟩,
    ⟨some 6, .mov none (.t 45), [], none⟩]))))
  (.region false [⟨some 46, .bin .add (.t 35) (.k (.one (.iv (.int .i64 1)))), [], none⟩,
    ⟨some 35, .mov none (.t 46), [], none⟩])))
def b89 : VCode := .seq (.region false [⟨some 4, .mov none (.k (.one (.iv (.sl true 0 [])))), [], none⟩])
  (.seq (.region false [⟨some 5, .mov none (.k (.one (.iv (.int .i64 0)))), [], none⟩,
    ⟨some 6, .mov none (.k (.one (.iv (.int .i64 (-1))))), [], none⟩])
  (.seq (.block 0 (.loop false [0, 1, 5, 6] l89_0))
  (.seq (.region false [⟨some 28, .mov none (.t 0), [], none⟩,
    ⟨some 29, .mov none (.t 5), [], none⟩,
    ⟨some 30, .call 90 [(false, .t 28), (false, .t 29)], [], none⟩,
    ⟨some 7, .mov none (.t 30), [], none⟩])
  (.seq (.region false [⟨some 6, .mov none (.k (.one (.iv (.int .i64 (-1))))), [], none⟩])
  (.seq (.seq (.region false [⟨some 31, .mov none (.t 1), [], none⟩,
    ⟨some 32, .mov none (.t 5), [], none⟩,
    ⟨some 33, .slS 1 (.t 31) none (some (.t 32)) none, [], none⟩,
    ⟨some 34, .blt .len [.t 33], [], none⟩,
    ⟨some 35, .mov none (.k (.one (.iv (.int .i64 0)))), [], none⟩])
  (.block 2 (.loop false [6, 7, 33, 34, 35] l89_1)))
  (.seq (.region false [⟨some 47, .mov none (.t 7), [], none⟩,
    ⟨some 4, .mov none (.t 47), [], none⟩])
  (.ret)))))))
def v89 : VFn := ⟨2, 48, [.t 4], b89⟩

theorem c89 : chkFn Try.prog 89 v89 = true := by kernel_rfl

/- scholia/coder.Num -/
def l90_0 : VCode := .seq (.seq (.region false [⟨some 41, .mov none (.t 8), [], none⟩,
    ⟨some 42, .bin .geq (.t 41) (.k (.one (.iv (.int .i64 0)))), [], none⟩])
  (.cond (.t 42) (.skip) (.exit 0)))
  (.seq (.block 1 (.region false [⟨some 45, .mov none (.t 7), [], none⟩,
    ⟨some 46, .mov none (.t 5), [], none⟩,
    ⟨some 47, .mov none (.t 8), [], none⟩,
    ⟨some 48, .bin .mul (.k (.one (.iv (.int .i64 8)))) (.t 47), [], none⟩,
    ⟨some 49, .bin .shr (.t 46) (.t 48), [], none⟩,
    ⟨some 50, .conv .u8 (.t 49), [], none⟩,
    ⟨some 51, .mks false 1 [.t 50], [], none⟩,
    ⟨some 52, .blt (.append 1 1) [.t 45, .t 51], [], none⟩,
    ⟨some 7, .mov none (.t 52), [], none⟩]))
  (.region false [⟨some 43, .mov none (.t 8), [], none⟩,
    ⟨some 44, .bin .sub (.t 43) (.k (.one (.iv (.int .i64 1)))), [], none⟩,
    ⟨some 8, .mov none (.t 44), [], none⟩]))
def b90 : VCode := .seq (.region false [⟨some 4, .mov none (.k (.one (.iv (.sl true 0 [])))), [], none⟩])
  (.seq (.region false [⟨some 9, .mov none (.t 1), [], none⟩,
    ⟨some 10, .blt .max [.t 9, .k (.one (.iv (.int .i64 0)))], [], none⟩,
    ⟨some 11, .conv .u64 (.t 10), [], none⟩,
    ⟨some 5, .mov none (.t 11), [], none⟩])
  (.seq (.region false [⟨some 12, .mov none (.t 5), [], none⟩,
    ⟨some 13, .call 121 [(false, .t 12)], [], none⟩,
    ⟨some 6, .mov none (.t 13), [], none⟩])
  (.seq (.region true [⟨some 14, .mov none (.t 0), [], none⟩,
    ⟨some 15, .mov none (.t 0), [], none⟩,
    ⟨some 16, .blt .len [.t 15], [1], none⟩,
    ⟨some 17, .mov none (.t 0), [], none⟩,
    ⟨some 18, .blt .len [.t 17], [3], none⟩,
    ⟨some 19, .slS 1 (.t 14) none (some (.t 16)) (some (.t 18)), [4, 2, 0], none⟩,
    ⟨some 20, .mov none (.t 6), [], none⟩,
    ⟨some 21, .bin .shr (.k (.one (.iv (.int .u64 65280)))) (.t 20), [6], none⟩,
    ⟨some 22, .conv .u8 (.t 21), [7], none⟩,
    ⟨some 23, .mks false 1 [.t 22], [8], none⟩,
    ⟨some 24, .blt (.append 1 1) [.t 19, .t 23], [9, 5], none⟩,
    ⟨some 7, .mov none (.t 24), [10], none⟩])
  (.seq (.seq (.region false [⟨some 25, .mov none (.t 6), [], none⟩,
    ⟨some 26, .bin .lss (.t 25) (.k (.one (.iv (.int .i64 8)))), [], none⟩])
  (.cond (.t 26) (.region true [⟨some 27, .mov none (.t 7), [], none⟩,
    ⟨some 28, .mov none (.t 0), [], none⟩,
    ⟨some 29, .blt .len [.t 28], [1], none⟩,
    ⟨some 30, .ixS 1 (.t 27) (.t 29), [2, 0], none⟩,
    ⟨some 31, .load false 1 (.t 30), [3], none⟩,
    ⟨some 32, .mov none (.t 5), [], none⟩,
    ⟨some 33, .mov none (.t 6), [], none⟩,
    ⟨some 34, .bin .mul (.k (.one (.iv (.int .i64 8)))) (.t 33), [6], none⟩,
    ⟨some 35, .bin .shr (.t 32) (.t 34), [7, 5], none⟩,
    ⟨some 36, .conv .u8 (.t 35), [8], none⟩,
    ⟨some 37, .bin .or (.t 31) (.t 36), [9, 4], none⟩,
    ⟨some 38, .ixS 1 (.t 27) (.t 29), [10], none⟩,
    ⟨none, .store 1 (.t 38) (.t 37), [11], none⟩]) (.skip)))
  (.seq (.seq (.region false [⟨some 39, .mov none (.t 6), [], none⟩,
    ⟨some 40, .bin .sub (.t 39) (.k (.one (.iv (.int .i64 1)))), [], none⟩,
    ⟨some 8, .mov none (.t 40), [], none⟩])
  (.block 0 (.loop false [5, 7, 8] l90_0)))
  (.seq (.region false [⟨some 53, .mov none (.t 7), [], none⟩,
    ⟨some 4, .mov none (.t 53), [], none⟩])
  (.ret)))))))
def v90 : VFn := ⟨2, 54, [.t 4], b90⟩

theorem c90 : chkFn Try.prog 90 v90 = true := by kernel_rfl

/- (*scholia/coder.In).Rising -/
def l91_0 : VCode := .seq (.region false [⟨some 15, .bin .lss (.t 14) (.t 13), [], none⟩])
  (.seq (.cond (.t 15) (.skip) (.exit 0))
  (.seq (.block 1 (.seq (.region false [⟨some 16, .mov none (.t 9), [], none⟩,
    ⟨some 17, .mov none (.t 0), [], none⟩,
    ⟨some 18, .mov none (.t 2), [], none⟩,
    ⟨some 19, .blt .max [.t 18, .k (.one (.iv (.int .i64 (-1))))], [], none⟩,
    ⟨some 20, .mov none (.t 9), [], none⟩,
    ⟨some 21, .bin .sub (.t 19) (.t 20), [], none⟩,
    ⟨some 22, .bin .sub (.t 21) (.k (.one (.iv (.int .i64 1)))), [], none⟩,
    ⟨some 23, .call 92 [(false, .t 17), (false, .t 22)], [], none⟩,
    ⟨some 24, .bin .add (.k (.one (.iv (.int .i64 1)))) (.t 23), [], none⟩,
    ⟨some 25, .bin .add (.t 16) (.t 24), [], none⟩,
    ⟨some 9, .mov none (.t 25), [], none⟩])
  (.seq (.seq (.region false [⟨some 26, .mov none (.t 0), [], none⟩,
    ⟨some 27, .call 47 [(false, .t 26)], [], none⟩,
    ⟨some 28, .bin .neq (.t 27) (.k (.one (.iv (.int .i64 0)))), [], none⟩])
  (.cond (.t 28) (.seq (.region false [⟨some 6, .mov none (.k (.one (.iv (.sl true 0 [])))), [], none⟩])
  (.ret)) (.skip)))
  (.region false [⟨some 29, .mov none (.t 8), [], none⟩,
    ⟨some 30, .mov none (.t 9), [], none⟩,
    ⟨some 31, .mks false 1 [.t 30], [], none⟩,
    ⟨some 32, .blt (.append 1 8) [.t 29, .t 31], [], none⟩,
    ⟨some 8, .mov none (.t 32), [], none⟩]))))
  (.region false [⟨some 33, .bin .add (.t 14) (.k (.one (.iv (.int .i64 1)))), [], none⟩,
    ⟨some 14, .mov none (.t 33), [], none⟩])))
def b91 : VCode := .seq (.region false [⟨some 6, .mov none (.k (.one (.iv (.sl true 0 [])))), [], none⟩])
  (.seq (.region false [⟨some 10, .mov none (.t 0), [], none⟩,
    ⟨some 11, .mov none (.t 1), [], none⟩,
    ⟨some 12, .call 92 [(false, .t 10), (false, .t 11)], [], none⟩,
    ⟨some 7, .mov none (.t 12), [], none⟩])
  (.seq (.region false [⟨some 8, .mov (some 1) (.k (.one (.iv (.sl true 0 [])))), [], none⟩])
  (.seq (.region false [⟨some 9, .mov none (.k (.one (.iv (.int .i64 (-1))))), [], none⟩])
  (.seq (.seq (.region false [⟨some 13, .mov none (.t 7), [], none⟩,
    ⟨some 14, .mov none (.k (.one (.iv (.int .i64 0)))), [], none⟩])
  (.block 0 (.loop false [0, 2, 8, 9, 13, 14] l91_0)))
  (.seq (.region false [⟨some 34, .mov none (.t 8), [], none⟩,
    ⟨some 6, .mov none (.t 34), [], none⟩])
  (.ret))))))
def v91 : VFn := ⟨3, 35, [.t 6], b91⟩

theorem c91 : chkFn Try.prog 91 v91 = true := by kernel_rfl

/- (*scholia/coder.In).Num -/
def b92 : VCode := .seq (.region false [⟨some 4, .mov none (.k (.one (.iv (.int .i64 0)))), [], none⟩])
  (.seq (.region false [⟨some 8, .mov none (.t 0), [], none⟩,
    ⟨some 9, .call 122 [(false, .t 8)], [], none⟩,
    ⟨some 7, .mov none (.t 9), [], none⟩,
    ⟨some 10, .ext 0 (.t 7), [], none⟩,
    ⟨some 11, .ext 1 (.t 7), [], none⟩,
    ⟨some 5, .mov none (.t 10), [], none⟩,
    ⟨some 6, .mov none (.t 11), [], none⟩])
  (.seq (.seq (.region false [⟨some 12, .mov none (.t 6), [], none⟩,
    ⟨some 13, .un .not (.t 12), [], none⟩])
  (.cond (.t 13) (.seq (.region false [⟨some 4, .mov none (.k (.one (.iv (.int .i64 0)))), [], none⟩])
  (.ret)) (.skip)))
  (.seq (.seq (.region false [⟨some 14, .mov none (.t 5), [], none⟩,
    ⟨some 15, .bin .shr (.t 14) (.k (.one (.iv (.int .u64 63)))), [], none⟩,
    ⟨some 16, .bin .eql (.t 15) (.k (.one (.iv (.int .u64 1)))), [], none⟩,
    ⟨some 17, .mov none (.t 16), [], none⟩,
    ⟨some 18, .mov none (.t 5), [], some (17, false)⟩,
    ⟨some 19, .conv .i64 (.t 18), [], some (17, false)⟩,
    ⟨some 20, .mov none (.t 1), [], some (17, false)⟩,
    ⟨some 21, .bin .gtr (.t 19) (.t 20), [], some (17, false)⟩,
    ⟨some 22, .pick (.t 17) (.k (.one (.iv (.bool true)))) (.t 21), [], none⟩])
  (.cond (.t 22) (.seq (.region false [⟨some 23, .mov none (.t 0), [], none⟩,
    ⟨some 24, .call 110 [(false, .t 23), (false, .k (.one (.iv (.int .i64 5))))], [], none⟩])
  (.seq (.region false [⟨some 4, .mov none (.k (.one (.iv (.int .i64 0)))), [], none⟩])
  (.ret))) (.skip)))
  (.seq (.region false [⟨some 25, .mov none (.t 5), [], none⟩,
    ⟨some 26, .conv .i64 (.t 25), [], none⟩,
    ⟨some 4, .mov none (.t 26), [], none⟩])
  (.ret)))))
def v92 : VFn := ⟨2, 27, [.t 4], b92⟩

theorem c92 : chkFn Try.prog 92 v92 = true := by kernel_rfl

/- scholia/scholiaref01.Rising -/
def l93_0 : VCode := .seq (.region false [⟨some 13, .bin .lss (.t 12) (.t 11), [], none⟩])
  (.seq (.cond (.t 13) (.skip) (.exit 0))
  (.seq (.block 1 (.seq (.region false [⟨some 14, .mov none (.t 12), [], none⟩,
    ⟨some 15, .ixS 1 (.t 10) (.t 12), [], none⟩,
    ⟨some 16, .load false 1 (.t 15), [], none⟩,
    ⟨some 6, .mov none (.t 14), [], none⟩,
    ⟨some 7, .mov none (.t 16), [], none⟩])
  (.seq (.region false [⟨some 17, .mov none (.t 5), [], none⟩,
    ⟨some 18, .mov none (.t 6), [], none⟩,
    ⟨some 19, .bin .eql (.t 17) (.t 18), [], none⟩,
    ⟨some 20, .mov none (.t 19), [], none⟩,
    ⟨some 21, .mov none (.t 7), [], some (20, true)⟩,
    ⟨some 22, .bin .geq (.t 21) (.k (.one (.iv (.int .i64 0)))), [], some (20, true)⟩,
    ⟨some 23, .pick (.t 20) (.t 22) (.k (.one (.iv (.bool false)))), [], none⟩,
    ⟨some 24, .mov none (.t 23), [], none⟩,
    ⟨some 25, .mov none (.t 6), [], some (24, true)⟩,
    ⟨some 26, .bin .eql (.t 25) (.k (.one (.iv (.int .i64 0)))), [], some (24, true)⟩,
    ⟨some 27, .mov none (.t 26), [], some (24, true)⟩,
    ⟨some 28, .mov none (.t 7), [], some (27, false)⟩,
    ⟨some 29, .mov none (.t 1), [], some (27, false)⟩,
    ⟨some 30, .mov none (.t 6), [], some (27, false)⟩,
    ⟨some 31, .bin .sub (.t 30) (.k (.one (.iv (.int .i64 1)))), [], some (27, false)⟩,
    ⟨some 32, .ixS 1 (.t 29) (.t 31), [], some (27, false)⟩,
    ⟨some 33, .load false 1 (.t 32), [], some (27, false)⟩,
    ⟨some 34, .bin .gtr (.t 28) (.t 33), [], some (27, false)⟩,
    ⟨some 35, .pick (.t 27) (.k (.one (.iv (.bool true)))) (.t 34), [], some (24, true)⟩,
    ⟨some 36, .pick (.t 24) (.t 35) (.k (.one (.iv (.bool false)))), [], none⟩])
  (.cond (.t 36) (.region false [⟨some 37, .mov none (.t 6), [], none⟩,
    ⟨some 38, .bin .add (.t 37) (.k (.one (.iv (.int .i64 1)))), [], none⟩,
    ⟨some 5, .mov none (.t 38), [], none⟩]) (.skip)))))
  (.region false [⟨some 39, .bin .add (.t 12) (.k (.one (.iv (.int .i64 1)))), [], none⟩,
    ⟨some 12, .mov none (.t 39), [], none⟩])))
def l93_1 : VCode := .seq (.region false [⟨some 45, .bin .lss (.t 44) (.t 43), [], none⟩])
  (.seq (.cond (.t 45) (.skip) (.exit 2))
  (.seq (.block 3 (.seq (.region false [⟨some 46, .mov none (.t 44), [], none⟩,
    ⟨some 9, .mov none (.t 46), [], none⟩])
  (.seq (.region false [⟨some 47, .mov none (.t 9), [], none⟩,
    ⟨some 48, .bin .eql (.t 47) (.k (.one (.iv (.int .i64 0)))), [], none⟩])
  (.cond (.t 48) (.region false [⟨some 49, .mov none (.t 8), [], none⟩,
    ⟨some 50, .mov none (.t 1), [], none⟩,
    ⟨some 51, .ixS 1 (.t 50) (.k (.one (.iv (.int .i64 0)))), [], none⟩,
    ⟨some 52, .load false 1 (.t 51), [], none⟩,
    ⟨some 53, .call 94 [(false, .t 49), (false, .t 52)], [], none⟩,
    ⟨some 8, .mov none (.t 53), [], none⟩]) (.region true [⟨some 54, .mov none (.t 8), [], none⟩,
    ⟨some 55, .mov none (.t 1), [], none⟩,
    ⟨some 56, .mov none (.t 9), [], none⟩,
    ⟨some 57, .ixS 1 (.t 55) (.t 56), [2, 1], none⟩,
    ⟨some 58, .load false 1 (.t 57), [3], none⟩,
    ⟨some 59, .mov none (.t 1), [], none⟩,
    ⟨some 60, .mov none (.t 9), [], none⟩,
    ⟨some 61, .bin .sub (.t 60) (.k (.one (.iv (.int .i64 1)))), [6], none⟩,
    ⟨some 62, .ixS 1 (.t 59) (.t 61), [7, 5], none⟩,
    ⟨some 63, .load false 1 (.t 62), [8], none⟩,
    ⟨some 64, .bin .sub (.t 58) (.t 63), [9, 4], none⟩,
    ⟨some 65, .bin .sub (.t 64) (.k (.one (.iv (.int .i64 1)))), [10], none⟩,
    ⟨some 66, .call 94 [(false, .t 54), (false, .t 65)], [11, 0], none⟩,
    ⟨some 8, .mov none (.t 66), [12], none⟩])))))
  (.region false [⟨some 67, .bin .add (.t 44) (.k (.one (.iv (.int .i64 1)))), [], none⟩,
    ⟨some 44, .mov none (.t 67), [], none⟩])))
def b93 : VCode := .seq (.region false [⟨some 4, .mov none (.k (.one (.iv (.sl true 0 [])))), [], none⟩])
  (.seq (.region false [⟨some 5, .mov none (.k (.one (.iv (.int .i64 0)))), [], none⟩])
  (.seq (.seq (.region false [⟨some 10, .mov none (.t 1), [], none⟩,
    ⟨some 11, .blt .len [.t 10], [], none⟩,
    ⟨some 12, .mov none (.k (.one (.iv (.int .i64 0)))), [], none⟩])
  (.block 0 (.loop false [0, 1, 5, 10, 11, 12] l93_0)))
  (.seq (.region false [⟨some 40, .mov none (.t 0), [], none⟩,
    ⟨some 41, .mov none (.t 5), [], none⟩,
    ⟨some 42, .call 94 [(false, .t 40), (false, .t 41)], [], none⟩,
    ⟨some 8, .mov none (.t 42), [], none⟩])
  (.seq (.seq (.region false [⟨some 43, .mov none (.t 5), [], none⟩,
    ⟨some 44, .mov none (.k (.one (.iv (.int .i64 0)))), [], none⟩])
  (.block 2 (.loop false [1, 8, 43, 44] l93_1)))
  (.seq (.region false [⟨some 68, .mov none (.t 8), [], none⟩,
    ⟨some 4, .mov none (.t 68), [], none⟩])
  (.ret))))))
def v93 : VFn := ⟨2, 69, [.t 4], b93⟩

theorem c93 : chkFn Try.prog 93 v93 = true := by kernel_rfl

/- scholia/scholiaref01.Num -/
def b94 : VCode := .seq (.region false [⟨some 4, .mov none (.k (.one (.iv (.sl true 0 [])))), [], none⟩])
  (.seq (.seq (.region false [⟨some 5, .mov none (.t 1), [], none⟩,
    ⟨some 6, .bin .lss (.t 5) (.k (.one (.iv (.int .i64 0)))), [], none⟩])
  (.cond (.t 6) (.region false [⟨some 1, .mov none (.k (.one (.iv (.int .i64 0)))), [], none⟩]) (.skip)))
  (.seq (.region false [⟨some 7, .mov none (.t 0), [], none⟩,
    ⟨some 8, .mov none (.t 1), [], none⟩,
    ⟨some 9, .conv .u64 (.t 8), [], none⟩,
    ⟨some 10, .call 124 [(false, .t 9)], [], none⟩,
    ⟨some 11, .call 123 [(false, .t 7), (false, .t 10)], [], none⟩,
    ⟨some 4, .mov none (.t 11), [], none⟩])
  (.ret)))
def v94 : VFn := ⟨2, 12, [.t 4], b94⟩

theorem c94 : chkFn Try.prog 94 v94 = true := by kernel_rfl

/- (*scholia/scholiaref01.In).Rising -/
def l95_0 : VCode := .seq (.region false [⟨some 17, .bin .lss (.t 16) (.t 15), [], none⟩])
  (.seq (.cond (.t 17) (.skip) (.exit 0))
  (.seq (.block 1 (.seq (.region false [⟨some 18, .mov none (.t 16), [], none⟩,
    ⟨some 9, .mov none (.t 18), [], none⟩])
  (.seq (.region false [⟨some 19, .mov none (.t 2), [], none⟩,
    ⟨some 10, .mov none (.t 19), [], none⟩])
  (.seq (.seq (.region false [⟨some 20, .mov none (.t 9), [], none⟩,
    ⟨some 21, .bin .gtr (.t 20) (.k (.one (.iv (.int .i64 0)))), [], none⟩])
  (.cond (.t 21) (.region false [⟨some 22, .mov none (.t 2), [], none⟩,
    ⟨some 23, .mov none (.t 8), [], none⟩,
    ⟨some 24, .mov none (.t 9), [], none⟩,
    ⟨some 25, .bin .sub (.t 24) (.k (.one (.iv (.int .i64 1)))), [], none⟩,
    ⟨some 26, .ixS 1 (.t 23) (.t 25), [], none⟩,
    ⟨some 27, .load false 1 (.t 26), [], none⟩,
    ⟨some 28, .bin .sub (.t 22) (.t 27), [], none⟩,
    ⟨some 29, .bin .sub (.t 28) (.k (.one (.iv (.int .i64 1)))), [], none⟩,
    ⟨some 10, .mov none (.t 29), [], none⟩]) (.skip)))
  (.seq (.region false [⟨some 30, .mov none (.t 0), [], none⟩,
    ⟨some 31, .mov none (.t 10), [], none⟩,
    ⟨some 32, .call 96 [(false, .t 30), (false, .t 31)], [], none⟩,
    ⟨some 11, .mov none (.t 32), [], none⟩])
  (.seq (.seq (.region false [⟨some 33, .mov none (.t 0), [], none⟩,
    ⟨some 34, .nilc (.t 33), [], none⟩,
    ⟨some 35, .fad 1 (.t 34), [], none⟩,
    ⟨some 36, .load false 1 (.t 35), [], none⟩,
    ⟨some 37, .bin .neq (.t 36) (.k (.one (.iv (.int .i64 0)))), [], none⟩])
  (.cond (.t 37) (.seq (.region false [⟨some 6, .mov none (.k (.one (.iv (.sl true 0 [])))), [], none⟩])
  (.ret)) (.skip)))
  (.seq (.seq (.region false [⟨some 38, .mov none (.t 9), [], none⟩,
    ⟨some 39, .bin .gtr (.t 38) (.k (.one (.iv (.int .i64 0)))), [], none⟩])
  (.cond (.t 39) (.region false [⟨some 40, .mov none (.t 8), [], none⟩,
    ⟨some 41, .mov none (.t 9), [], none⟩,
    ⟨some 42, .bin .sub (.t 41) (.k (.one (.iv (.int .i64 1)))), [], none⟩,
    ⟨some 43, .ixS 1 (.t 40) (.t 42), [], none⟩,
    ⟨some 44, .load false 1 (.t 43), [], none⟩,
    ⟨some 45, .bin .add (.t 44) (.k (.one (.iv (.int .i64 1)))), [], none⟩,
    ⟨some 46, .mov none (.t 11), [], none⟩,
    ⟨some 47, .bin .add (.t 45) (.t 46), [], none⟩,
    ⟨some 11, .mov none (.t 47), [], none⟩]) (.skip)))
  (.region false [⟨some 48, .mov none (.t 8), [], none⟩,
    ⟨some 49, .mov none (.t 11), [], none⟩,
    ⟨some 50, .mks false 1 [.t 49], [], none⟩,
    ⟨some 51, .blt (.append 1 8) [.t 48, .t 50], [], none⟩,
    ⟨some 8, .mov none (.t 51), [], none⟩]))))))))
  (.region false [⟨some 52, .bin .add (.t 16) (.k (.one (.iv (.int .i64 1)))), [], none⟩,
    ⟨some 16, .mov none (.t 52), [], none⟩])))
def b95 : VCode := .seq (.region false [⟨some 6, .mov none (.k (.one (.iv (.sl true 0 [])))), [], none⟩])
  (.seq (.region false [⟨some 12, .mov none (.t 0), [], none⟩,
    ⟨some 13, .mov none (.t 1), [], none⟩,
    ⟨some 14, .call 96 [(false, .t 12), (false, .t 13)], [], none⟩,
    ⟨some 7, .mov none (.t 14), [], none⟩])
  (.seq (.region false [⟨some 8, .mov (some 1) (.k (.one (.iv (.sl true 0 [])))), [], none⟩])
  (.seq (.seq (.region false [⟨some 15, .mov none (.t 7), [], none⟩,
    ⟨some 16, .mov none (.k (.one (.iv (.int .i64 0)))), [], none⟩])
  (.block 0 (.loop false [0, 2, 8, 15, 16] l95_0)))
  (.seq (.region false [⟨some 53, .mov none (.t 8), [], none⟩,
    ⟨some 6, .mov none (.t 53), [], none⟩])
  (.ret)))))
def v95 : VFn := ⟨3, 54, [.t 6], b95⟩

theorem c95 : chkFn Try.prog 95 v95 = true := by kernel_rfl

/- (*scholia/scholiaref01.In).Num -/
def b96 : VCode := .seq (.region false [⟨some 4, .mov none (.k (.one (.iv (.int .i64 0)))), [], none⟩])
  (.seq (.region false [⟨some 6, .mov none (.t 0), [], none⟩,
    ⟨some 7, .call 125 [(false, .t 6)], [], none⟩,
    ⟨some 5, .mov none (.t 7), [], none⟩])
  (.seq (.seq (.region false [⟨some 8, .mov none (.t 5), [], none⟩,
    ⟨some 9, .bin .geq (.t 8) (.k (.one (.iv (.int .u64 9223372036854775808)))), [], none⟩,
    ⟨some 10, .mov none (.t 9), [], none⟩,
    ⟨some 11, .mov none (.t 0), [], some (10, false)⟩,
    ⟨some 12, .nilc (.t 11), [], some (10, false)⟩,
    ⟨some 13, .fad 1 (.t 12), [], some (10, false)⟩,
    ⟨some 14, .load false 1 (.t 13), [], some (10, false)⟩,
    ⟨some 15, .bin .eql (.t 14) (.k (.one (.iv (.int .i64 0)))), [], some (10, false)⟩,
    ⟨some 16, .mov none (.t 15), [], some (10, false)⟩,
    ⟨some 17, .mov none (.t 5), [], some (16, true)⟩,
    ⟨some 18, .conv .i64 (.t 17), [], some (16, true)⟩,
    ⟨some 19, .mov none (.t 1), [], some (16, true)⟩,
    ⟨some 20, .bin .gtr (.t 18) (.t 19), [], some (16, true)⟩,
    ⟨some 21, .pick (.t 16) (.t 20) (.k (.one (.iv (.bool false)))), [], some (10, false)⟩,
    ⟨some 22, .pick (.t 10) (.k (.one (.iv (.bool true)))) (.t 21), [], none⟩])
  (.cond (.t 22) (.seq (.region false [⟨some 23, .mov none (.t 0), [], none⟩,
    ⟨some 24, .call 126 [(false, .t 23), (false, .k (.one (.iv (.int .i64 5))))], [], none⟩])
  (.seq (.region false [⟨some 4, .mov none (.k (.one (.iv (.int .i64 0)))), [], none⟩])
  (.ret))) (.skip)))
  (.seq (.region false [⟨some 25, .mov none (.t 5), [], none⟩,
    ⟨some 26, .conv .i64 (.t 25), [], none⟩,
    ⟨some 4, .mov none (.t 26), [], none⟩])
  (.ret))))
def v96 : VFn := ⟨2, 27, [.t 4], b96⟩

theorem c96 : chkFn Try.prog 96 v96 = true := by kernel_rfl

/- scholia/past.clone -/
def b97 : VCode := .seq (.region false [⟨some 1, .box (.t 0), [], none⟩,
    ⟨some 2, .new [.iv (.int .i64 0), .iv (.int .i64 0), .iv (.int .i64 0), .iv (.int .i64 0), .iv (.str ⟨#[]⟩), .iv (.int .i64 0), .iv (.str ⟨#[]⟩), .iv (.sl true 0 [])], [], none⟩])
  (.seq (.region false [⟨some 3, .fad 7 (.t 1), [], none⟩,
    ⟨some 4, .load false 1 (.t 3), [], none⟩,
    ⟨some 5, .call 83 [(false, .t 4)], [], none⟩,
    ⟨some 6, .fad 7 (.t 1), [], none⟩,
    ⟨none, .store 1 (.t 6) (.t 5), [], none⟩])
  (.seq (.region false [⟨some 7, .load true 8 (.t 1), [], none⟩,
    ⟨none, .store 8 (.t 2) (.t 7), [], none⟩])
  (.ret)))
def v97 : VFn := ⟨1, 8, [.c 2 true 8], b97⟩

theorem c97 : chkFn Try.prog 97 v97 = true := by kernel_rfl

/- slices.EqualFunc[[]scholia/api.Event,[]scholia/api.Event,scholia/api.Event,scholia/api.Event] -/
def l103_0 : VCode := .seq (.region false [⟨some 18, .bin .lss (.t 17) (.t 16), [], none⟩])
  (.seq (.cond (.t 18) (.skip) (.exit 0))
  (.seq (.block 1 (.seq (.region false [⟨some 19, .mov none (.t 17), [], none⟩,
    ⟨some 20, .ixS 8 (.t 15) (.t 17), [], none⟩,
    ⟨some 21, .load true 8 (.t 20), [], none⟩,
    ⟨some 8, .new [.iv (.int .i64 0), .iv (.int .i64 0), .iv (.int .i64 0), .iv (.int .i64 0), .iv (.str ⟨#[]⟩), .iv (.int .i64 0), .iv (.str ⟨#[]⟩), .iv (.sl true 0 [])], [], none⟩,
    ⟨some 7, .mov none (.t 19), [], none⟩,
    ⟨none, .store 8 (.t 8) (.t 21), [], none⟩])
  (.seq (.region false [⟨some 22, .mov none (.t 1), [], none⟩,
    ⟨some 23, .mov none (.t 7), [], none⟩,
    ⟨some 24, .ixS 8 (.t 22) (.t 23), [], none⟩,
    ⟨some 25, .load true 8 (.t 24), [], none⟩,
    ⟨some 9, .new [.iv (.int .i64 0), .iv (.int .i64 0), .iv (.int .i64 0), .iv (.int .i64 0), .iv (.str ⟨#[]⟩), .iv (.int .i64 0), .iv (.str ⟨#[]⟩), .iv (.sl true 0 [])], [], none⟩,
    ⟨none, .store 8 (.t 9) (.t 25), [], none⟩])
  (.seq (.region false [⟨some 26, .mov none (.t 2), [], none⟩,
    ⟨some 27, .load true 8 (.t 8), [], none⟩,
    ⟨some 28, .load true 8 (.t 9), [], none⟩,
    ⟨some 29, .callv (.t 26) [(false, .t 27), (false, .t 28)], [], none⟩,
    ⟨some 30, .un .not (.t 29), [], none⟩])
  (.cond (.t 30) (.seq (.region false [⟨some 6, .mov none (.k (.one (.iv (.bool false)))), [], none⟩])
  (.ret)) (.skip))))))
  (.region false [⟨some 31, .bin .add (.t 17) (.k (.one (.iv (.int .i64 1)))), [], none⟩,
    ⟨some 17, .mov none (.t 31), [], none⟩])))
def b103 : VCode := .seq (.region false [⟨some 6, .mov none (.k (.one (.iv (.bool false)))), [], none⟩])
  (.seq (.seq (.region false [⟨some 10, .mov none (.t 0), [], none⟩,
    ⟨some 11, .blt .len [.t 10], [], none⟩,
    ⟨some 12, .mov none (.t 1), [], none⟩,
    ⟨some 13, .blt .len [.t 12], [], none⟩,
    ⟨some 14, .bin .neq (.t 11) (.t 13), [], none⟩])
  (.cond (.t 14) (.seq (.region false [⟨some 6, .mov none (.k (.one (.iv (.bool false)))), [], none⟩])
  (.ret)) (.skip)))
  (.seq (.seq (.region false [⟨some 15, .mov none (.t 0), [], none⟩,
    ⟨some 16, .blt .len [.t 15], [], none⟩,
    ⟨some 17, .mov none (.k (.one (.iv (.int .i64 0)))), [], none⟩])
  (.block 0 (.loop false [1, 2, 15, 16, 17] l103_0)))
  (.seq (.region false [⟨some 6, .mov none (.k (.one (.iv (.bool true)))), [], none⟩])
  (.ret))))
def v103 : VFn := ⟨3, 32, [.t 6], b103⟩

theorem c103 : chkFn Try.prog 103 v103 = true := by kernel_rfl

/- scholia/past.same -/
def b104 : VCode := .seq (.region false [⟨some 2, .box (.t 0), [], none⟩,
    ⟨some 3, .box (.t 1), [], none⟩,
    ⟨some 4, .mov none (.k (.one (.iv (.bool false)))), [], none⟩])
  (.seq (.region false [⟨some 5, .fad 0 (.t 2), [], none⟩,
    ⟨some 6, .load true 2 (.t 5), [], none⟩,
    ⟨some 7, .fad 0 (.t 3), [], none⟩,
    ⟨some 8, .load true 2 (.t 7), [], none⟩,
    ⟨some 9, .eqa .eql ([.int] ++ [.int]) (.t 6) (.t 8), [], none⟩,
    ⟨some 10, .mov none (.t 9), [], none⟩,
    ⟨some 11, .fad 2 (.t 2), [], some (10, true)⟩,
    ⟨some 12, .load false 1 (.t 11), [], some (10, true)⟩,
    ⟨some 13, .fad 2 (.t 3), [], some (10, true)⟩,
    ⟨some 14, .load false 1 (.t 13), [], some (10, true)⟩,
    ⟨some 15, .bin .eql (.t 12) (.t 14), [], some (10, true)⟩,
    ⟨some 16, .pick (.t 10) (.t 15) (.k (.one (.iv (.bool false)))), [], none⟩,
    ⟨some 17, .mov none (.t 16), [], none⟩,
    ⟨some 18, .fad 3 (.t 2), [], some (17, true)⟩,
    ⟨some 19, .load false 1 (.t 18), [], some (17, true)⟩,
    ⟨some 20, .fad 3 (.t 3), [], some (17, true)⟩,
    ⟨some 21, .load false 1 (.t 20), [], some (17, true)⟩,
    ⟨some 22, .bin .eql (.t 19) (.t 21), [], some (17, true)⟩,
    ⟨some 23, .pick (.t 17) (.t 22) (.k (.one (.iv (.bool false)))), [], none⟩,
    ⟨some 24, .mov none (.t 23), [], none⟩,
    ⟨some 25, .fad 4 (.t 2), [], some (24, true)⟩,
    ⟨some 26, .load false 1 (.t 25), [], some (24, true)⟩,
    ⟨some 27, .fad 4 (.t 3), [], some (24, true)⟩,
    ⟨some 28, .load false 1 (.t 27), [], some (24, true)⟩,
    ⟨some 29, .bin .eql (.t 26) (.t 28), [], some (24, true)⟩,
    ⟨some 30, .pick (.t 24) (.t 29) (.k (.one (.iv (.bool false)))), [], none⟩,
    ⟨some 31, .mov none (.t 30), [], none⟩,
    ⟨some 32, .fad 5 (.t 2), [], some (31, true)⟩,
    ⟨some 33, .load false 1 (.t 32), [], some (31, true)⟩,
    ⟨some 34, .fad 5 (.t 3), [], some (31, true)⟩,
    ⟨some 35, .load false 1 (.t 34), [], some (31, true)⟩,
    ⟨some 36, .bin .eql (.t 33) (.t 35), [], some (31, true)⟩,
    ⟨some 37, .pick (.t 31) (.t 36) (.k (.one (.iv (.bool false)))), [], none⟩,
    ⟨some 38, .mov none (.t 37), [], none⟩,
    ⟨some 39, .fad 6 (.t 2), [], some (38, true)⟩,
    ⟨some 40, .load false 1 (.t 39), [], some (38, true)⟩,
    ⟨some 41, .fad 6 (.t 3), [], some (38, true)⟩,
    ⟨some 42, .load false 1 (.t 41), [], some (38, true)⟩,
    ⟨some 43, .bin .eql (.t 40) (.t 42), [], some (38, true)⟩,
    ⟨some 44, .pick (.t 38) (.t 43) (.k (.one (.iv (.bool false)))), [], none⟩,
    ⟨some 45, .mov none (.t 44), [], none⟩,
    ⟨some 46, .fad 7 (.t 2), [], some (45, true)⟩,
    ⟨some 47, .load false 1 (.t 46), [], some (45, true)⟩,
    ⟨some 48, .fad 7 (.t 3), [], some (45, true)⟩,
    ⟨some 49, .load false 1 (.t 48), [], some (45, true)⟩,
    ⟨some 50, .call 88 [(false, .t 47), (false, .t 49)], [], some (45, true)⟩,
    ⟨some 51, .pick (.t 45) (.t 50) (.k (.one (.iv (.bool false)))), [], none⟩,
    ⟨some 4, .mov none (.t 51), [], none⟩])
  (.ret))
def v104 : VFn := ⟨2, 52, [.t 4], b104⟩

theorem c104 : chkFn Try.prog 104 v104 = true := by kernel_rfl

/- scholia/docs.Check -/
def b105 : VCode := .seq (.region false [⟨some 1, .box (.t 0), [], none⟩,
    ⟨some 2, .mov none (.k (.one (.iv (.int .i64 0)))), [], none⟩])
  (.seq (.block 0 (.seq (.region false [⟨some 4, .fad 0 (.t 1), [], none⟩,
    ⟨some 5, .load true 2 (.t 4), [], none⟩,
    ⟨some 6, .call 18 [(false, .t 5)], [], none⟩,
    ⟨some 7, .un .not (.t 6), [], none⟩,
    ⟨some 8, .mov none (.t 7), [], none⟩,
    ⟨some 9, .fad 2 (.t 1), [], some (8, false)⟩,
    ⟨some 10, .load false 1 (.t 9), [], some (8, false)⟩,
    ⟨some 11, .bin .lss (.t 10) (.k (.one (.iv (.int .i64 1)))), [], some (8, false)⟩,
    ⟨some 12, .pick (.t 8) (.k (.one (.iv (.bool true)))) (.t 11), [], none⟩,
    ⟨some 13, .mov none (.t 12), [], none⟩,
    ⟨some 14, .fad 2 (.t 1), [], some (13, false)⟩,
    ⟨some 15, .load false 1 (.t 14), [], some (13, false)⟩,
    ⟨some 16, .bin .gtr (.t 15) (.k (.one (.iv (.int .i64 1099511627776)))), [], some (13, false)⟩,
    ⟨some 17, .pick (.t 13) (.k (.one (.iv (.bool true)))) (.t 16), [], none⟩,
    ⟨some 18, .mov none (.t 17), [], none⟩,
    ⟨some 19, .fad 4 (.t 1), [], some (18, false)⟩,
    ⟨some 20, .load false 1 (.t 19), [], some (18, false)⟩,
    ⟨some 21, .call 129 [(false, .t 20)], [], some (18, false)⟩,
    ⟨some 22, .un .not (.t 21), [], some (18, false)⟩,
    ⟨some 23, .pick (.t 18) (.k (.one (.iv (.bool true)))) (.t 22), [], none⟩,
    ⟨some 24, .mov none (.t 23), [], none⟩,
    ⟨some 25, .fad 0 (.t 1), [], some (24, false)⟩,
    ⟨some 26, .load true 2 (.t 25), [], some (24, false)⟩,
    ⟨some 27, .fad 7 (.t 1), [], some (24, false)⟩,
    ⟨some 28, .load false 1 (.t 27), [], some (24, false)⟩,
    ⟨some 29, .call 130 [(false, .t 26), (false, .t 28)], [], some (24, false)⟩,
    ⟨some 30, .un .not (.t 29), [], some (24, false)⟩,
    ⟨some 31, .pick (.t 24) (.k (.one (.iv (.bool true)))) (.t 30), [], none⟩,
    ⟨some 3, .mov none (.t 31), [], none⟩])
  (.cond (.t 3) (.seq (.region false [⟨some 2, .mov none (.k (.one (.iv (.int .i64 1)))), [], none⟩])
  (.ret)) (.seq (.region false [⟨some 33, .fad 3 (.t 1), [], none⟩,
    ⟨some 34, .load false 1 (.t 33), [], none⟩,
    ⟨some 35, .bin .eql (.t 34) (.k (.one (.iv (.int .i64 2)))), [], none⟩,
    ⟨some 36, .mov none (.t 35), [], none⟩,
    ⟨some 37, .fad 5 (.t 1), [], some (36, true)⟩,
    ⟨some 38, .load false 1 (.t 37), [], some (36, true)⟩,
    ⟨some 39, .bin .eql (.t 38) (.k (.one (.iv (.int .i64 0)))), [], some (36, true)⟩,
    ⟨some 40, .pick (.t 36) (.t 39) (.k (.one (.iv (.bool false)))), [], none⟩,
    ⟨some 41, .mov none (.t 40), [], none⟩,
    ⟨some 42, .fad 6 (.t 1), [], some (41, true)⟩,
    ⟨some 43, .load false 1 (.t 42), [], some (41, true)⟩,
    ⟨some 44, .bin .eql (.t 43) (.k (.one (.iv (.str ⟨#[]⟩)))), [], some (41, true)⟩,
    ⟨some 45, .pick (.t 41) (.t 44) (.k (.one (.iv (.bool false)))), [], none⟩,
    ⟨some 32, .mov none (.t 45), [], none⟩])
  (.cond (.t 32) (.seq (.region false [⟨some 2, .mov none (.k (.one (.iv (.int .i64 0)))), [], none⟩])
  (.ret)) (.seq (.region false [⟨some 47, .fad 3 (.t 1), [], none⟩,
    ⟨some 48, .load false 1 (.t 47), [], none⟩,
    ⟨some 49, .bin .neq (.t 48) (.k (.one (.iv (.int .i64 1)))), [], none⟩,
    ⟨some 46, .mov none (.t 49), [], none⟩])
  (.cond (.t 46) (.seq (.region false [⟨some 2, .mov none (.k (.one (.iv (.int .i64 1)))), [], none⟩])
  (.ret)) (.skip))))))))
  (.seq (.region false [⟨some 50, .fad 5 (.t 1), [], none⟩,
    ⟨some 51, .load false 1 (.t 50), [], none⟩,
    ⟨some 52, .fad 6 (.t 1), [], none⟩,
    ⟨some 53, .load false 1 (.t 52), [], none⟩,
    ⟨some 54, .call 131 [(false, .t 51), (false, .t 53)], [], none⟩,
    ⟨some 2, .mov none (.t 54), [], none⟩])
  (.ret)))
def v105 : VFn := ⟨1, 55, [.t 2], b105⟩

theorem c105 : chkFn Try.prog 105 v105 = true := by kernel_rfl

/- scholia/docs.PutDot -/
def b106 : VCode := .seq (.region false [⟨some 3, .box (.t 1), [], none⟩,
    ⟨some 4, .mov none (.k (.one (.iv (.sl true 0 [])))), [], none⟩])
  (.seq (.region true [⟨some 5, .mov none (.t 0), [], none⟩,
    ⟨some 6, .fad 0 (.t 3), [], none⟩,
    ⟨some 7, .load false 1 (.t 6), [1], none⟩,
    ⟨some 8, .call 90 [(false, .t 5), (false, .t 7)], [2, 0], none⟩,
    ⟨some 9, .fad 1 (.t 3), [], none⟩,
    ⟨some 10, .load false 1 (.t 9), [4], none⟩,
    ⟨some 11, .call 90 [(false, .t 8), (false, .t 10)], [5, 3], none⟩,
    ⟨some 4, .mov none (.t 11), [6], none⟩])
  (.ret))
def v106 : VFn := ⟨2, 12, [.t 4], b106⟩

theorem c106 : chkFn Try.prog 106 v106 = true := by kernel_rfl

/- scholia/coder.Text -/
def b107 : VCode := .seq (.region false [⟨some 4, .mov none (.k (.one (.iv (.sl true 0 [])))), [], none⟩])
  (.seq (.region false [⟨some 5, .mov none (.t 0), [], none⟩,
    ⟨some 6, .mov none (.t 1), [], none⟩,
    ⟨some 7, .blt .lenS [.t 6], [], none⟩,
    ⟨some 8, .call 90 [(false, .t 5), (false, .t 7)], [], none⟩,
    ⟨some 9, .mov none (.t 1), [], none⟩,
    ⟨some 10, .blt (.append 1 1) [.t 8, .t 9], [], none⟩,
    ⟨some 4, .mov none (.t 10), [], none⟩])
  (.ret))
def v107 : VFn := ⟨2, 11, [.t 4], b107⟩

theorem c107 : chkFn Try.prog 107 v107 = true := by kernel_rfl

/- scholia/docs.ReadDot -/
def b108 : VCode := .seq (.region false [⟨some 2, .new [.iv (.int .i64 0), .iv (.int .i64 0)], [], none⟩])
  (.seq (.region false [⟨some 4, .mov none (.t 0), [], none⟩,
    ⟨some 5, .call 92 [(false, .t 4), (false, .k (.one (.iv (.int .i64 63))))], [], none⟩,
    ⟨some 6, .build [.iv (.int .i64 0), .iv (.int .i64 0)] [(0, 1, .t 5)], [], none⟩,
    ⟨some 3, .new [.iv (.int .i64 0), .iv (.int .i64 0)], [], none⟩,
    ⟨none, .store 2 (.t 3) (.t 6), [], none⟩])
  (.seq (.region false [⟨some 7, .mov none (.t 0), [], none⟩,
    ⟨some 8, .call 92 [(false, .t 7), (false, .k (.one (.iv (.int .i64 1073741824))))], [], none⟩,
    ⟨some 9, .fad 1 (.t 3), [], none⟩,
    ⟨none, .store 1 (.t 9) (.t 8), [], none⟩])
  (.seq (.region false [⟨some 10, .load true 2 (.t 3), [], none⟩,
    ⟨none, .store 2 (.t 2) (.t 10), [], none⟩])
  (.ret))))
def v108 : VFn := ⟨1, 11, [.c 2 true 2], b108⟩

theorem c108 : chkFn Try.prog 108 v108 = true := by kernel_rfl

/- (*scholia/coder.In).Text -/
def b109 : VCode := .seq (.region false [⟨some 4, .mov none (.k (.one (.iv (.str ⟨#[]⟩)))), [], none⟩])
  (.seq (.region false [⟨some 8, .mov none (.t 0), [], none⟩,
    ⟨some 9, .mov none (.t 0), [], none⟩,
    ⟨some 10, .mov none (.t 1), [], none⟩,
    ⟨some 11, .call 92 [(false, .t 9), (false, .t 10)], [], none⟩,
    ⟨some 12, .call 132 [(false, .t 8), (false, .t 11)], [], none⟩,
    ⟨some 7, .mov none (.t 12), [], none⟩,
    ⟨some 13, .ext 0 (.t 7), [], none⟩,
    ⟨some 14, .ext 1 (.t 7), [], none⟩,
    ⟨some 5, .mov none (.t 13), [], none⟩,
    ⟨some 6, .mov none (.t 14), [], none⟩])
  (.seq (.region false [⟨some 15, .mov none (.t 5), [], none⟩,
    ⟨some 16, .b2s (.t 15), [], none⟩,
    ⟨some 4, .mov none (.t 16), [], none⟩])
  (.ret)))
def v109 : VFn := ⟨2, 17, [.t 4], b109⟩

theorem c109 : chkFn Try.prog 109 v109 = true := by kernel_rfl

/- (*scholia/coder.In).Fail -/
def b110 : VCode := .seq (.seq (.region false [⟨some 4, .mov none (.t 0), [], none⟩,
    ⟨some 5, .eqs .eql .ptr (.t 4) (.k (.one (.iv .nilp))), [], none⟩,
    ⟨some 6, .mov none (.t 5), [], none⟩,
    ⟨some 7, .mov none (.t 0), [], some (6, false)⟩,
    ⟨some 8, .nilc (.t 7), [], some (6, false)⟩,
    ⟨some 9, .fad 2 (.t 8), [], some (6, false)⟩,
    ⟨some 10, .load false 1 (.t 9), [], some (6, false)⟩,
    ⟨some 11, .un .not (.t 10), [], some (6, false)⟩,
    ⟨some 12, .pick (.t 6) (.k (.one (.iv (.bool true)))) (.t 11), [], none⟩,
    ⟨some 13, .mov none (.t 12), [], none⟩,
    ⟨some 14, .mov none (.t 0), [], some (13, false)⟩,
    ⟨some 15, .nilc (.t 14), [], some (13, false)⟩,
    ⟨some 16, .fad 1 (.t 15), [], some (13, false)⟩,
    ⟨some 17, .load false 1 (.t 16), [], some (13, false)⟩,
    ⟨some 18, .bin .neq (.t 17) (.k (.one (.iv (.int .i64 0)))), [], some (13, false)⟩,
    ⟨some 19, .pick (.t 13) (.k (.one (.iv (.bool true)))) (.t 18), [], none⟩,
    ⟨some 20, .mov none (.t 19), [], none⟩,
    ⟨some 21, .mov none (.t 1), [], some (20, false)⟩,
    ⟨some 22, .bin .eql (.t 21) (.k (.one (.iv (.int .i64 0)))), [], some (20, false)⟩,
    ⟨some 23, .pick (.t 20) (.k (.one (.iv (.bool true)))) (.t 22), [], none⟩])
  (.cond (.t 23) (.ret) (.skip)))
  (.region false [⟨some 24, .mov none (.t 0), [], none⟩,
    ⟨some 25, .mov none (.t 0), [], none⟩,
    ⟨some 26, .mov none (.t 1), [], none⟩,
    ⟨some 27, .nilc (.t 24), [], none⟩,
    ⟨some 28, .fad 1 (.t 27), [], none⟩,
    ⟨none, .store 1 (.t 28) (.t 26), [], none⟩,
    ⟨some 29, .nilc (.t 25), [], none⟩,
    ⟨some 30, .fad 0 (.t 29), [], none⟩,
    ⟨none, .store 1 (.t 30) (.k (.one (.iv (.sl true 0 [])))), [], none⟩])
def v110 : VFn := ⟨2, 31, [], b110⟩

theorem c110 : chkFn Try.prog 110 v110 = true := by kernel_rfl

/- scholia/scholiaref13.PutEvent -/
def l111_0 : VCode := .seq (.region false [⟨some 47, .bin .lss (.t 46) (.t 45), [], none⟩])
  (.seq (.cond (.t 47) (.skip) (.exit 0))
  (.seq (.block 1 (.seq (.region false [⟨some 48, .ixS 2 (.t 44) (.t 46), [], none⟩,
    ⟨some 49, .load true 2 (.t 48), [], none⟩,
    ⟨some 7, .new [.iv (.int .i64 0), .iv (.int .i64 0)], [], none⟩,
    ⟨none, .store 2 (.t 7) (.t 49), [], none⟩])
  (.region false [⟨some 50, .mov none (.t 5), [], none⟩,
    ⟨some 51, .load true 2 (.t 7), [], none⟩,
    ⟨some 52, .call 134 [(false, .t 50), (false, .t 51)], [], none⟩,
    ⟨some 5, .mov none (.t 52), [], none⟩])))
  (.region false [⟨some 53, .bin .add (.t 46) (.k (.one (.iv (.int .i64 1)))), [], none⟩,
    ⟨some 46, .mov none (.t 53), [], none⟩])))
def b111 : VCode := .seq (.region false [⟨some 3, .box (.t 1), [], none⟩,
    ⟨some 4, .mov none (.k (.one (.iv (.sl true 0 [])))), [], none⟩])
  (.seq (.seq (.region false [⟨some 8, .load true 8 (.t 3), [], none⟩,
    ⟨some 9, .call 133 [(false, .t 8)], [], none⟩,
    ⟨some 10, .bin .neq (.t 9) (.k (.one (.iv (.int .i64 0)))), [], none⟩])
  (.cond (.t 10) (.seq (.region false [⟨some 11, .mks false 1 [], [], none⟩,
    ⟨some 12, .mov none (.t 0), [], none⟩,
    ⟨some 13, .blt (.append 1 1) [.t 11, .t 12], [], none⟩,
    ⟨some 4, .mov none (.t 13), [], none⟩])
  (.ret)) (.skip)))
  (.seq (.region false [⟨some 14, .mov none (.t 0), [], none⟩,
    ⟨some 15, .fad 0 (.t 3), [], none⟩,
    ⟨some 16, .load true 2 (.t 15), [], none⟩,
    ⟨some 17, .call 134 [(false, .t 14), (false, .t 16)], [], none⟩,
    ⟨some 5, .mov none (.t 17), [], none⟩])
  (.seq (.region false [⟨some 18, .mov none (.t 5), [], none⟩,
    ⟨some 19, .fad 2 (.t 3), [], none⟩,
    ⟨some 20, .load false 1 (.t 19), [], none⟩,
    ⟨some 21, .call 94 [(false, .t 18), (false, .t 20)], [], none⟩,
    ⟨some 5, .mov none (.t 21), [], none⟩])
  (.seq (.region false [⟨some 22, .mov none (.t 5), [], none⟩,
    ⟨some 23, .fad 3 (.t 3), [], none⟩,
    ⟨some 24, .load false 1 (.t 23), [], none⟩,
    ⟨some 25, .call 94 [(false, .t 22), (false, .t 24)], [], none⟩,
    ⟨some 5, .mov none (.t 25), [], none⟩])
  (.seq (.region false [⟨some 26, .mov none (.t 5), [], none⟩,
    ⟨some 27, .fad 4 (.t 3), [], none⟩,
    ⟨some 28, .load false 1 (.t 27), [], none⟩,
    ⟨some 29, .call 135 [(false, .t 26), (false, .t 28)], [], none⟩,
    ⟨some 5, .mov none (.t 29), [], none⟩])
  (.seq (.region false [⟨some 30, .mov none (.t 5), [], none⟩,
    ⟨some 31, .fad 5 (.t 3), [], none⟩,
    ⟨some 32, .load false 1 (.t 31), [], none⟩,
    ⟨some 33, .call 94 [(false, .t 30), (false, .t 32)], [], none⟩,
    ⟨some 5, .mov none (.t 33), [], none⟩])
  (.seq (.region false [⟨some 34, .mov none (.t 5), [], none⟩,
    ⟨some 35, .fad 6 (.t 3), [], none⟩,
    ⟨some 36, .load false 1 (.t 35), [], none⟩,
    ⟨some 37, .call 135 [(false, .t 34), (false, .t 36)], [], none⟩,
    ⟨some 5, .mov none (.t 37), [], none⟩])
  (.seq (.region false [⟨some 38, .mov none (.t 5), [], none⟩,
    ⟨some 39, .fad 7 (.t 3), [], none⟩,
    ⟨some 40, .load false 1 (.t 39), [], none⟩,
    ⟨some 41, .blt .len [.t 40], [], none⟩,
    ⟨some 42, .call 94 [(false, .t 38), (false, .t 41)], [], none⟩,
    ⟨some 5, .mov none (.t 42), [], none⟩])
  (.seq (.seq (.region false [⟨some 43, .fad 7 (.t 3), [], none⟩,
    ⟨some 44, .load false 1 (.t 43), [], none⟩,
    ⟨some 45, .blt .len [.t 44], [], none⟩,
    ⟨some 46, .mov none (.k (.one (.iv (.int .i64 0)))), [], none⟩])
  (.block 0 (.loop false [5, 44, 45, 46] l111_0)))
  (.seq (.region false [⟨some 54, .mov none (.t 5), [], none⟩,
    ⟨some 4, .mov none (.t 54), [], none⟩])
  (.ret)))))))))))
def v111 : VFn := ⟨2, 55, [.t 4], b111⟩

theorem c111 : chkFn Try.prog 111 v111 = true := by kernel_rfl

/- scholia/scholiaref13.ReadEvent -/
def l112_0 : VCode := .seq (.region false [⟨some 27, .bin .lss (.t 26) (.t 25), [], none⟩])
  (.seq (.cond (.t 27) (.skip) (.exit 0))
  (.seq (.block 1 (.region true [⟨some 28, .fad 7 (.t 3), [], none⟩,
    ⟨some 29, .load false 1 (.t 28), [0], none⟩,
    ⟨some 30, .mov none (.t 0), [], none⟩,
    ⟨some 31, .call 136 [(false, .t 30)], [2], none⟩,
    ⟨some 32, .mks false 2 [.t 31], [3], none⟩,
    ⟨some 33, .blt (.append 2 16) [.t 29, .t 32], [4, 1], none⟩,
    ⟨some 34, .fad 7 (.t 3), [5], none⟩,
    ⟨none, .store 1 (.t 34) (.t 33), [6], none⟩]))
  (.region false [⟨some 35, .bin .add (.t 26) (.k (.one (.iv (.int .i64 1)))), [], none⟩,
    ⟨some 26, .mov none (.t 35), [], none⟩])))
def b112 : VCode := .seq (.region false [⟨some 2, .new [.iv (.int .i64 0), .iv (.int .i64 0), .iv (.int .i64 0), .iv (.int .i64 0), .iv (.str ⟨#[]⟩), .iv (.int .i64 0), .iv (.str ⟨#[]⟩), .iv (.sl true 0 [])], [], none⟩])
  (.seq (.region false [⟨some 5, .mov none (.t 0), [], none⟩,
    ⟨some 6, .call 136 [(false, .t 5)], [], none⟩,
    ⟨some 7, .build [.iv (.int .i64 0), .iv (.int .i64 0), .iv (.int .i64 0), .iv (.int .i64 0), .iv (.str ⟨#[]⟩), .iv (.int .i64 0), .iv (.str ⟨#[]⟩), .fresh 2] [(0, 2, .t 6)], [], none⟩,
    ⟨some 3, .new [.iv (.int .i64 0), .iv (.int .i64 0), .iv (.int .i64 0), .iv (.int .i64 0), .iv (.str ⟨#[]⟩), .iv (.int .i64 0), .iv (.str ⟨#[]⟩), .iv (.sl true 0 [])], [], none⟩,
    ⟨none, .store 8 (.t 3) (.t 7), [], none⟩])
  (.seq (.region false [⟨some 8, .mov none (.t 0), [], none⟩,
    ⟨some 9, .call 96 [(false, .t 8), (false, .k (.one (.iv (.int .i64 1099511627776))))], [], none⟩,
    ⟨some 10, .fad 2 (.t 3), [], none⟩,
    ⟨none, .store 1 (.t 10) (.t 9), [], none⟩])
  (.seq (.region false [⟨some 11, .mov none (.t 0), [], none⟩,
    ⟨some 12, .call 96 [(false, .t 11), (false, .k (.one (.iv (.int .i64 2))))], [], none⟩,
    ⟨some 13, .fad 3 (.t 3), [], none⟩,
    ⟨none, .store 1 (.t 13) (.t 12), [], none⟩])
  (.seq (.region false [⟨some 14, .mov none (.t 0), [], none⟩,
    ⟨some 15, .call 137 [(false, .t 14), (false, .k (.one (.iv (.int .i64 12))))], [], none⟩,
    ⟨some 16, .fad 4 (.t 3), [], none⟩,
    ⟨none, .store 1 (.t 16) (.t 15), [], none⟩])
  (.seq (.region false [⟨some 17, .mov none (.t 0), [], none⟩,
    ⟨some 18, .call 96 [(false, .t 17), (false, .k (.one (.iv (.int .i64 4))))], [], none⟩,
    ⟨some 19, .fad 5 (.t 3), [], none⟩,
    ⟨none, .store 1 (.t 19) (.t 18), [], none⟩])
  (.seq (.region false [⟨some 20, .mov none (.t 0), [], none⟩,
    ⟨some 21, .call 137 [(false, .t 20), (false, .k (.one (.iv (.int .i64 160))))], [], none⟩,
    ⟨some 22, .fad 6 (.t 3), [], none⟩,
    ⟨none, .store 1 (.t 22) (.t 21), [], none⟩])
  (.seq (.region false [⟨some 23, .mov none (.t 0), [], none⟩,
    ⟨some 24, .call 96 [(false, .t 23), (false, .k (.one (.iv (.int .i64 120))))], [], none⟩,
    ⟨some 4, .mov none (.t 24), [], none⟩])
  (.seq (.seq (.region false [⟨some 25, .mov none (.t 4), [], none⟩,
    ⟨some 26, .mov none (.k (.one (.iv (.int .i64 0)))), [], none⟩])
  (.block 0 (.loop false [0, 2, 3, 25, 26] l112_0)))
  (.seq (.seq (.region false [⟨some 36, .mov none (.t 0), [], none⟩,
    ⟨some 37, .nilc (.t 36), [], none⟩,
    ⟨some 38, .fad 1 (.t 37), [], none⟩,
    ⟨some 39, .load false 1 (.t 38), [], none⟩,
    ⟨some 40, .bin .eql (.t 39) (.k (.one (.iv (.int .i64 0)))), [], none⟩,
    ⟨some 41, .mov none (.t 40), [], none⟩,
    ⟨some 42, .load true 8 (.t 3), [], some (41, true)⟩,
    ⟨some 43, .call 133 [(false, .t 42)], [], some (41, true)⟩,
    ⟨some 44, .bin .neq (.t 43) (.k (.one (.iv (.int .i64 0)))), [], some (41, true)⟩,
    ⟨some 45, .pick (.t 41) (.t 44) (.k (.one (.iv (.bool false)))), [], none⟩])
  (.cond (.t 45) (.region false [⟨some 46, .mov none (.t 0), [], none⟩,
    ⟨some 47, .call 126 [(false, .t 46), (false, .k (.one (.iv (.int .i64 3))))], [], none⟩]) (.skip)))
  (.seq (.seq (.region false [⟨some 48, .mov none (.t 0), [], none⟩,
    ⟨some 49, .nilc (.t 48), [], none⟩,
    ⟨some 50, .fad 1 (.t 49), [], none⟩,
    ⟨some 51, .load false 1 (.t 50), [], none⟩,
    ⟨some 52, .bin .neq (.t 51) (.k (.one (.iv (.int .i64 0)))), [], none⟩])
  (.cond (.t 52) (.seq (.region false [⟨some 53, .build [.iv (.int .i64 0), .iv (.int .i64 0), .iv (.int .i64 0), .iv (.int .i64 0), .iv (.str ⟨#[]⟩), .iv (.int .i64 0), .iv (.str ⟨#[]⟩), .iv (.sl true 0 [])] [], [], none⟩,
    ⟨none, .store 8 (.t 2) (.t 53), [], none⟩])
  (.ret)) (.skip)))
  (.seq (.region false [⟨some 54, .load true 8 (.t 3), [], none⟩,
    ⟨none, .store 8 (.t 2) (.t 54), [], none⟩])
  (.ret))))))))))))
def v112 : VFn := ⟨1, 55, [.c 2 true 8], b112⟩

theorem c112 : chkFn Try.prog 112 v112 = true := by kernel_rfl

/- cmp.isNaN[int] -/
def b113 : VCode := .seq (.region false [⟨some 2, .mov none (.k (.one (.iv (.bool false)))), [], none⟩])
  (.seq (.region false [⟨some 3, .mov none (.t 0), [], none⟩,
    ⟨some 4, .mov none (.t 0), [], none⟩,
    ⟨some 5, .bin .neq (.t 3) (.t 4), [], none⟩,
    ⟨some 2, .mov none (.t 5), [], none⟩])
  (.ret))
def v113 : VFn := ⟨1, 6, [.t 2], b113⟩

theorem c113 : chkFn Try.prog 113 v113 = true := by kernel_rfl

/- slices.ContainsFunc[[]int,int] -/
def b114 : VCode := .seq (.region false [⟨some 4, .mov none (.k (.one (.iv (.bool false)))), [], none⟩])
  (.seq (.region false [⟨some 5, .mov none (.t 0), [], none⟩,
    ⟨some 6, .mov none (.t 1), [], none⟩,
    ⟨some 7, .call 138 [(false, .t 5), (false, .t 6)], [], none⟩,
    ⟨some 8, .bin .geq (.t 7) (.k (.one (.iv (.int .i64 0)))), [], none⟩,
    ⟨some 4, .mov none (.t 8), [], none⟩])
  (.ret))
def v114 : VFn := ⟨2, 9, [.t 4], b114⟩

theorem c114 : chkFn Try.prog 114 v114 = true := by kernel_rfl

/- scholia/dots.good$1 -/
def b115 : VCode := .seq (.region false [⟨some 2, .mov none (.k (.one (.iv (.bool false)))), [], none⟩])
  (.seq (.region false [⟨some 3, .mov none (.t 0), [], none⟩,
    ⟨some 4, .bin .lss (.t 3) (.k (.one (.iv (.int .i64 0)))), [], none⟩,
    ⟨some 5, .mov none (.t 4), [], none⟩,
    ⟨some 6, .mov none (.t 0), [], some (5, false)⟩,
    ⟨some 7, .bin .gtr (.t 6) (.k (.one (.iv (.int .i64 1073741824)))), [], some (5, false)⟩,
    ⟨some 8, .pick (.t 5) (.k (.one (.iv (.bool true)))) (.t 7), [], none⟩,
    ⟨some 2, .mov none (.t 8), [], none⟩])
  (.ret))
def v115 : VFn := ⟨1, 9, [.t 2], b115⟩

theorem c115 : chkFn Try.prog 115 v115 = true := by kernel_rfl

/- slices.IndexFunc[[]scholia/api.Dot,scholia/api.Dot] -/
def l116_0 : VCode := .seq (.region false [⟨some 9, .bin .lss (.t 8) (.t 7), [], none⟩])
  (.seq (.cond (.t 9) (.skip) (.exit 0))
  (.seq (.block 1 (.seq (.region false [⟨some 10, .mov none (.t 8), [], none⟩,
    ⟨some 5, .mov none (.t 10), [], none⟩])
  (.seq (.region false [⟨some 11, .mov none (.t 1), [], none⟩,
    ⟨some 12, .mov none (.t 0), [], none⟩,
    ⟨some 13, .mov none (.t 5), [], none⟩,
    ⟨some 14, .ixS 2 (.t 12) (.t 13), [], none⟩,
    ⟨some 15, .load true 2 (.t 14), [], none⟩,
    ⟨some 16, .callv (.t 11) [(false, .t 15)], [], none⟩])
  (.cond (.t 16) (.seq (.region false [⟨some 17, .mov none (.t 5), [], none⟩,
    ⟨some 4, .mov none (.t 17), [], none⟩])
  (.ret)) (.skip)))))
  (.region false [⟨some 18, .bin .add (.t 8) (.k (.one (.iv (.int .i64 1)))), [], none⟩,
    ⟨some 8, .mov none (.t 18), [], none⟩])))
def b116 : VCode := .seq (.region false [⟨some 4, .mov none (.k (.one (.iv (.int .i64 0)))), [], none⟩])
  (.seq (.seq (.region false [⟨some 6, .mov none (.t 0), [], none⟩,
    ⟨some 7, .blt .len [.t 6], [], none⟩,
    ⟨some 8, .mov none (.k (.one (.iv (.int .i64 0)))), [], none⟩])
  (.block 0 (.loop false [0, 1, 7, 8] l116_0)))
  (.seq (.region false [⟨some 4, .mov none (.k (.one (.iv (.int .i64 (-1))))), [], none⟩])
  (.ret)))
def v116 : VFn := ⟨2, 19, [.t 4], b116⟩

theorem c116 : chkFn Try.prog 116 v116 = true := by kernel_rfl

/- slices.pdqsortCmpFunc[scholia/api.Dot] -/
def l117_0 : VCode := .block 1 (.seq (.region false [⟨some 21, .mov none (.t 2), [], none⟩,
    ⟨some 22, .mov none (.t 1), [], none⟩,
    ⟨some 23, .bin .sub (.t 21) (.t 22), [], none⟩,
    ⟨some 12, .mov none (.t 23), [], none⟩])
  (.seq (.seq (.region false [⟨some 24, .mov none (.t 12), [], none⟩,
    ⟨some 25, .bin .leq (.t 24) (.k (.one (.iv (.int .i64 12)))), [], none⟩])
  (.cond (.t 25) (.seq (.region false [⟨some 26, .mov none (.t 0), [], none⟩,
    ⟨some 27, .mov none (.t 1), [], none⟩,
    ⟨some 28, .mov none (.t 2), [], none⟩,
    ⟨some 29, .mov none (.t 4), [], none⟩,
    ⟨some 30, .call 139 [(true, .t 26), (false, .t 27), (false, .t 28), (false, .t 29)], [], none⟩])
  (.ret)) (.skip)))
  (.seq (.seq (.region false [⟨some 31, .mov none (.t 3), [], none⟩,
    ⟨some 32, .bin .eql (.t 31) (.k (.one (.iv (.int .i64 0)))), [], none⟩])
  (.cond (.t 32) (.seq (.region false [⟨some 33, .mov none (.t 0), [], none⟩,
    ⟨some 34, .mov none (.t 1), [], none⟩,
    ⟨some 35, .mov none (.t 2), [], none⟩,
    ⟨some 36, .mov none (.t 4), [], none⟩,
    ⟨some 37, .call 140 [(true, .t 33), (false, .t 34), (false, .t 35), (false, .t 36)], [], none⟩])
  (.ret)) (.skip)))
  (.seq (.seq (.region false [⟨some 38, .mov none (.t 10), [], none⟩,
    ⟨some 39, .un .not (.t 38), [], none⟩])
  (.cond (.t 39) (.seq (.region false [⟨some 40, .mov none (.t 0), [], none⟩,
    ⟨some 41, .mov none (.t 1), [], none⟩,
    ⟨some 42, .mov none (.t 2), [], none⟩,
    ⟨some 43, .mov none (.t 4), [], none⟩,
    ⟨some 44, .call 141 [(true, .t 40), (false, .t 41), (false, .t 42), (false, .t 43)], [], none⟩])
  (.region false [⟨some 45, .mov none (.t 3), [], none⟩,
    ⟨some 46, .bin .sub (.t 45) (.k (.one (.iv (.int .i64 1)))), [], none⟩,
    ⟨some 3, .mov none (.t 46), [], none⟩])) (.skip)))
  (.seq (.region false [⟨some 48, .mov none (.t 0), [], none⟩,
    ⟨some 49, .mov none (.t 1), [], none⟩,
    ⟨some 50, .mov none (.t 2), [], none⟩,
    ⟨some 51, .mov none (.t 4), [], none⟩,
    ⟨some 52, .call 142 [(true, .t 48), (false, .t 49), (false, .t 50), (false, .t 51)], [], none⟩,
    ⟨some 47, .mov none (.t 52), [], none⟩,
    ⟨some 53, .ext 0 (.t 47), [], none⟩,
    ⟨some 54, .ext 1 (.t 47), [], none⟩,
    ⟨some 13, .mov none (.t 53), [], none⟩,
    ⟨some 14, .mov none (.t 54), [], none⟩])
  (.seq (.seq (.region false [⟨some 55, .mov none (.t 14), [], none⟩,
    ⟨some 56, .bin .eql (.t 55) (.k (.one (.iv (.int .i64 2)))), [], none⟩])
  (.cond (.t 56) (.seq (.region false [⟨some 57, .mov none (.t 0), [], none⟩,
    ⟨some 58, .mov none (.t 1), [], none⟩,
    ⟨some 59, .mov none (.t 2), [], none⟩,
    ⟨some 60, .mov none (.t 4), [], none⟩,
    ⟨some 61, .call 143 [(true, .t 57), (false, .t 58), (false, .t 59), (false, .t 60)], [], none⟩])
  (.seq (.region false [⟨some 62, .mov none (.t 2), [], none⟩,
    ⟨some 63, .bin .sub (.t 62) (.k (.one (.iv (.int .i64 1)))), [], none⟩,
    ⟨some 64, .mov none (.t 13), [], none⟩,
    ⟨some 65, .mov none (.t 1), [], none⟩,
    ⟨some 66, .bin .sub (.t 64) (.t 65), [], none⟩,
    ⟨some 67, .bin .sub (.t 63) (.t 66), [], none⟩,
    ⟨some 13, .mov none (.t 67), [], none⟩])
  (.region false [⟨some 14, .mov none (.k (.one (.iv (.int .i64 1)))), [], none⟩]))) (.skip)))
  (.seq (.seq (.region false [⟨some 68, .mov none (.t 10), [], none⟩,
    ⟨some 69, .mov none (.t 68), [], none⟩,
    ⟨some 70, .mov none (.t 11), [], some (69, true)⟩,
    ⟨some 71, .pick (.t 69) (.t 70) (.k (.one (.iv (.bool false)))), [], none⟩,
    ⟨some 72, .mov none (.t 71), [], none⟩,
    ⟨some 73, .mov none (.t 14), [], some (72, true)⟩,
    ⟨some 74, .bin .eql (.t 73) (.k (.one (.iv (.int .i64 1)))), [], some (72, true)⟩,
    ⟨some 75, .pick (.t 72) (.t 74) (.k (.one (.iv (.bool false)))), [], none⟩])
  (.cond (.t 75) (.seq (.region false [⟨some 76, .mov none (.t 0), [], none⟩,
    ⟨some 77, .mov none (.t 1), [], none⟩,
    ⟨some 78, .mov none (.t 2), [], none⟩,
    ⟨some 79, .mov none (.t 4), [], none⟩,
    ⟨some 80, .call 144 [(true, .t 76), (false, .t 77), (false, .t 78), (false, .t 79)], [], none⟩])
  (.cond (.t 80) (.ret) (.skip))) (.skip)))
  (.seq (.seq (.region true [⟨some 81, .mov none (.t 1), [], none⟩,
    ⟨some 82, .bin .gtr (.t 81) (.k (.one (.iv (.int .i64 0)))), [0], none⟩,
    ⟨some 83, .mov none (.t 82), [1], none⟩,
    ⟨some 84, .mov none (.t 4), [2], some (83, true)⟩,
    ⟨some 85, .mov none (.t 0), [2], some (83, true)⟩,
    ⟨some 86, .mov none (.t 1), [2], some (83, true)⟩,
    ⟨some 87, .bin .sub (.t 86) (.k (.one (.iv (.int .i64 1)))), [5], some (83, true)⟩,
    ⟨some 88, .ixS 2 (.t 85) (.t 87), [6, 4], some (83, true)⟩,
    ⟨some 89, .load true 2 (.t 88), [7], some (83, true)⟩,
    ⟨some 90, .mov none (.t 0), [2], some (83, true)⟩,
    ⟨some 91, .mov none (.t 13), [2], some (83, true)⟩,
    ⟨some 92, .ixS 2 (.t 90) (.t 91), [10, 9], some (83, true)⟩,
    ⟨some 93, .load true 2 (.t 92), [11], some (83, true)⟩,
    ⟨some 94, .callv (.t 84) [(false, .t 89), (false, .t 93)], [12, 8, 3], some (83, true)⟩,
    ⟨some 95, .bin .lss (.t 94) (.k (.one (.iv (.int .i64 0)))), [13], some (83, true)⟩,
    ⟨some 96, .un .not (.t 95), [14], some (83, true)⟩,
    ⟨some 97, .pick (.t 83) (.t 96) (.k (.one (.iv (.bool false)))), [15], none⟩])
  (.cond (.t 97) (.seq (.region false [⟨some 98, .mov none (.t 0), [], none⟩,
    ⟨some 99, .mov none (.t 1), [], none⟩,
    ⟨some 100, .mov none (.t 2), [], none⟩,
    ⟨some 101, .mov none (.t 13), [], none⟩,
    ⟨some 102, .mov none (.t 4), [], none⟩,
    ⟨some 103, .call 145 [(true, .t 98), (false, .t 99), (false, .t 100), (false, .t 101), (false, .t 102)], [], none⟩,
    ⟨some 15, .mov none (.t 103), [], none⟩])
  (.seq (.region false [⟨some 104, .mov none (.t 15), [], none⟩,
    ⟨some 1, .mov none (.t 104), [], none⟩])
  (.exit 1))) (.skip)))
  (.seq (.region false [⟨some 106, .mov none (.t 0), [], none⟩,
    ⟨some 107, .mov none (.t 1), [], none⟩,
    ⟨some 108, .mov none (.t 2), [], none⟩,
    ⟨some 109, .mov none (.t 13), [], none⟩,
    ⟨some 110, .mov none (.t 4), [], none⟩,
    ⟨some 111, .call 146 [(true, .t 106), (false, .t 107), (false, .t 108), (false, .t 109), (false, .t 110)], [], none⟩,
    ⟨some 105, .mov none (.t 111), [], none⟩,
    ⟨some 112, .ext 0 (.t 105), [], none⟩,
    ⟨some 113, .ext 1 (.t 105), [], none⟩,
    ⟨some 16, .mov none (.t 112), [], none⟩,
    ⟨some 17, .mov none (.t 113), [], none⟩])
  (.seq (.region false [⟨some 114, .mov none (.t 17), [], none⟩,
    ⟨some 11, .mov none (.t 114), [], none⟩])
  (.seq (.region false [⟨some 115, .mov none (.t 16), [], none⟩,
    ⟨some 116, .mov none (.t 1), [], none⟩,
    ⟨some 117, .bin .sub (.t 115) (.t 116), [], none⟩,
    ⟨some 118, .mov none (.t 2), [], none⟩,
    ⟨some 119, .mov none (.t 16), [], none⟩,
    ⟨some 120, .bin .sub (.t 118) (.t 119), [], none⟩,
    ⟨some 18, .mov none (.t 117), [], none⟩,
    ⟨some 19, .mov none (.t 120), [], none⟩])
  (.seq (.region false [⟨some 121, .mov none (.t 12), [], none⟩,
    ⟨some 122, .bin .quo (.t 121) (.k (.one (.iv (.int .i64 8)))), [], none⟩,
    ⟨some 20, .mov none (.t 122), [], none⟩])
  (.seq (.region false [⟨some 123, .mov none (.t 18), [], none⟩,
    ⟨some 124, .mov none (.t 19), [], none⟩,
    ⟨some 125, .bin .lss (.t 123) (.t 124), [], none⟩])
  (.cond (.t 125) (.seq (.region false [⟨some 126, .mov none (.t 18), [], none⟩,
    ⟨some 127, .mov none (.t 20), [], none⟩,
    ⟨some 128, .bin .geq (.t 126) (.t 127), [], none⟩,
    ⟨some 10, .mov none (.t 128), [], none⟩])
  (.seq (.region false [⟨some 129, .mov none (.t 0), [], none⟩,
    ⟨some 130, .mov none (.t 1), [], none⟩,
    ⟨some 131, .mov none (.t 16), [], none⟩,
    ⟨some 132, .mov none (.t 3), [], none⟩,
    ⟨some 133, .mov none (.t 4), [], none⟩,
    ⟨some 134, .call 117 [(true, .t 129), (false, .t 130), (false, .t 131), (false, .t 132), (false, .t 133)], [], none⟩])
  (.region false [⟨some 135, .mov none (.t 16), [], none⟩,
    ⟨some 136, .bin .add (.t 135) (.k (.one (.iv (.int .i64 1)))), [], none⟩,
    ⟨some 1, .mov none (.t 136), [], none⟩]))) (.seq (.region false [⟨some 137, .mov none (.t 19), [], none⟩,
    ⟨some 138, .mov none (.t 20), [], none⟩,
    ⟨some 139, .bin .geq (.t 137) (.t 138), [], none⟩,
    ⟨some 10, .mov none (.t 139), [], none⟩])
  (.seq (.region false [⟨some 140, .mov none (.t 0), [], none⟩,
    ⟨some 141, .mov none (.t 16), [], none⟩,
    ⟨some 142, .bin .add (.t 141) (.k (.one (.iv (.int .i64 1)))), [], none⟩,
    ⟨some 143, .mov none (.t 2), [], none⟩,
    ⟨some 144, .mov none (.t 3), [], none⟩,
    ⟨some 145, .mov none (.t 4), [], none⟩,
    ⟨some 146, .call 117 [(true, .t 140), (false, .t 142), (false, .t 143), (false, .t 144), (false, .t 145)], [], none⟩])
  (.region false [⟨some 147, .mov none (.t 16), [], none⟩,
    ⟨some 2, .mov none (.t 147), [], none⟩])))))))))))))))))
def b117 : VCode := .seq (.region false [⟨some 10, .mov none (.k (.one (.iv (.bool true)))), [], none⟩])
  (.seq (.region false [⟨some 11, .mov none (.k (.one (.iv (.bool true)))), [], none⟩])
  (.block 0 (.loop false [0, 1, 2, 3, 4, 10, 11] l117_0)))
def v117 : VFn := ⟨5, 148, [], b117⟩

theorem c117 : chkFn Try.prog 117 v117 = true := by kernel_rfl

/- math/bits.Len -/
def b118 : VCode := .seq (.region false [⟨some 2, .mov none (.k (.one (.iv (.int .i64 0)))), [], none⟩])
  (.seq (.cond (.k (.one (.iv (.bool false)))) (.seq (.region false [⟨some 3, .mov none (.t 0), [], none⟩,
    ⟨some 4, .conv .u32 (.t 3), [], none⟩,
    ⟨some 5, .call 147 [(false, .t 4)], [], none⟩,
    ⟨some 2, .mov none (.t 5), [], none⟩])
  (.ret)) (.skip))
  (.seq (.region false [⟨some 6, .mov none (.t 0), [], none⟩,
    ⟨some 7, .call 148 [(false, .t 6)], [], none⟩,
    ⟨some 2, .mov none (.t 7), [], none⟩])
  (.ret)))
def v118 : VFn := ⟨1, 8, [.t 2], b118⟩

theorem c118 : chkFn Try.prog 118 v118 = true := by kernel_rfl

/- scholia/coder.need -/
def b121 : VCode := .seq (.region false [⟨some 2, .mov none (.k (.one (.iv (.int .i64 0)))), [], none⟩])
  (.seq (.region false [⟨some 4, .mov none (.t 0), [], none⟩,
    ⟨some 5, .call 148 [(false, .t 4)], [], none⟩,
    ⟨some 3, .mov none (.t 5), [], none⟩])
  (.seq (.seq (.region false [⟨some 6, .mov none (.t 3), [], none⟩,
    ⟨some 7, .bin .gtr (.t 6) (.k (.one (.iv (.int .i64 56)))), [], none⟩])
  (.cond (.t 7) (.seq (.region false [⟨some 2, .mov none (.k (.one (.iv (.int .i64 8)))), [], none⟩])
  (.ret)) (.skip)))
  (.seq (.region false [⟨some 8, .mov none (.t 3), [], none⟩,
    ⟨some 9, .bin .sub (.t 8) (.k (.one (.iv (.int .i64 1)))), [], none⟩,
    ⟨some 10, .blt .max [.t 9, .k (.one (.iv (.int .i64 0)))], [], none⟩,
    ⟨some 11, .bin .quo (.t 10) (.k (.one (.iv (.int .i64 7)))), [], none⟩,
    ⟨some 2, .mov none (.t 11), [], none⟩])
  (.ret))))
def v121 : VFn := ⟨1, 12, [.t 2], b121⟩

theorem c121 : chkFn Try.prog 121 v121 = true := by kernel_rfl

/- (*scholia/coder.In).raw -/
def l122_0 : VCode := .seq (.region false [⟨some 42, .bin .lss (.t 41) (.t 40), [], none⟩])
  (.seq (.cond (.t 42) (.skip) (.exit 0))
  (.seq (.block 1 (.seq (.region false [⟨some 43, .ixS 1 (.t 39) (.t 41), [], none⟩,
    ⟨some 44, .load false 1 (.t 43), [], none⟩,
    ⟨some 9, .mov none (.t 44), [], none⟩])
  (.region false [⟨some 45, .mov none (.t 7), [], none⟩,
    ⟨some 46, .bin .shl (.t 45) (.k (.one (.iv (.int .u64 8)))), [], none⟩,
    ⟨some 47, .mov none (.t 9), [], none⟩,
    ⟨some 48, .conv .u64 (.t 47), [], none⟩,
    ⟨some 49, .bin .or (.t 46) (.t 48), [], none⟩,
    ⟨some 7, .mov none (.t 49), [], none⟩])))
  (.region false [⟨some 50, .bin .add (.t 41) (.k (.one (.iv (.int .i64 1)))), [], none⟩,
    ⟨some 41, .mov none (.t 50), [], none⟩])))
def b122 : VCode := .seq (.region false [⟨some 2, .mov none (.k (.one (.iv (.int .u64 0)))), [], none⟩,
    ⟨some 3, .mov none (.k (.one (.iv (.bool false)))), [], none⟩])
  (.seq (.region false [⟨some 11, .mov none (.t 0), [], none⟩,
    ⟨some 12, .call 132 [(false, .t 11), (false, .k (.one (.iv (.int .i64 1))))], [], none⟩,
    ⟨some 10, .mov none (.t 12), [], none⟩,
    ⟨some 13, .ext 0 (.t 10), [], none⟩,
    ⟨some 14, .ext 1 (.t 10), [], none⟩,
    ⟨some 4, .mov none (.t 13), [], none⟩,
    ⟨some 5, .mov none (.t 14), [], none⟩])
  (.seq (.seq (.region false [⟨some 15, .mov none (.t 5), [], none⟩,
    ⟨some 16, .un .not (.t 15), [], none⟩])
  (.cond (.t 16) (.seq (.region false [⟨some 2, .mov none (.k (.one (.iv (.int .u64 0)))), [], none⟩,
    ⟨some 3, .mov none (.k (.one (.iv (.bool false)))), [], none⟩])
  (.ret)) (.skip)))
  (.seq (.region false [⟨some 17, .mov none (.t 4), [], none⟩,
    ⟨some 18, .ixS 1 (.t 17) (.k (.one (.iv (.int .i64 0)))), [], none⟩,
    ⟨some 19, .load false 1 (.t 18), [], none⟩,
    ⟨some 20, .un .xor (.t 19), [], none⟩,
    ⟨some 21, .call 149 [(false, .t 20)], [], none⟩,
    ⟨some 6, .mov none (.t 21), [], none⟩])
  (.seq (.region false [⟨some 7, .mov none (.k (.one (.iv (.int .u64 0)))), [], none⟩])
  (.seq (.seq (.region false [⟨some 22, .mov none (.t 6), [], none⟩,
    ⟨some 23, .bin .lss (.t 22) (.k (.one (.iv (.int .i64 8)))), [], none⟩])
  (.cond (.t 23) (.region true [⟨some 24, .mov none (.t 4), [], none⟩,
    ⟨some 25, .ixS 1 (.t 24) (.k (.one (.iv (.int .i64 0)))), [0], none⟩,
    ⟨some 26, .load false 1 (.t 25), [1], none⟩,
    ⟨some 27, .mov none (.t 6), [], none⟩,
    ⟨some 28, .bin .shr (.k (.one (.iv (.int .u8 255)))) (.t 27), [3], none⟩,
    ⟨some 29, .bin .and (.t 26) (.t 28), [4, 2], none⟩,
    ⟨some 30, .conv .u64 (.t 29), [5], none⟩,
    ⟨some 7, .mov none (.t 30), [6], none⟩]) (.skip)))
  (.seq (.region false [⟨some 32, .mov none (.t 0), [], none⟩,
    ⟨some 33, .mov none (.t 6), [], none⟩,
    ⟨some 34, .call 132 [(false, .t 32), (false, .t 33)], [], none⟩,
    ⟨some 31, .mov none (.t 34), [], none⟩,
    ⟨some 35, .ext 0 (.t 31), [], none⟩,
    ⟨some 36, .ext 1 (.t 31), [], none⟩,
    ⟨some 4, .mov none (.t 35), [], none⟩,
    ⟨some 5, .mov none (.t 36), [], none⟩])
  (.seq (.seq (.region false [⟨some 37, .mov none (.t 5), [], none⟩,
    ⟨some 38, .un .not (.t 37), [], none⟩])
  (.cond (.t 38) (.seq (.region false [⟨some 2, .mov none (.k (.one (.iv (.int .u64 0)))), [], none⟩,
    ⟨some 3, .mov none (.k (.one (.iv (.bool false)))), [], none⟩])
  (.ret)) (.skip)))
  (.seq (.seq (.region false [⟨some 39, .mov none (.t 4), [], none⟩,
    ⟨some 40, .blt .len [.t 39], [], none⟩,
    ⟨some 41, .mov none (.k (.one (.iv (.int .i64 0)))), [], none⟩])
  (.block 0 (.loop false [0, 6, 7, 39, 40, 41] l122_0)))
  (.seq (.seq (.region false [⟨some 51, .mov none (.t 7), [], none⟩,
    ⟨some 52, .call 121 [(false, .t 51)], [], none⟩,
    ⟨some 53, .mov none (.t 6), [], none⟩,
    ⟨some 54, .bin .neq (.t 52) (.t 53), [], none⟩])
  (.cond (.t 54) (.seq (.region false [⟨some 55, .mov none (.t 0), [], none⟩,
    ⟨some 56, .call 110 [(false, .t 55), (false, .k (.one (.iv (.int .i64 3))))], [], none⟩])
  (.seq (.region false [⟨some 2, .mov none (.k (.one (.iv (.int .u64 0)))), [], none⟩,
    ⟨some 3, .mov none (.k (.one (.iv (.bool false)))), [], none⟩])
  (.ret))) (.skip)))
  (.seq (.region false [⟨some 57, .mov none (.t 7), [], none⟩,
    ⟨some 2, .mov none (.t 57), [], none⟩,
    ⟨some 3, .mov none (.k (.one (.iv (.bool true)))), [], none⟩])
  (.ret)))))))))))
def v122 : VFn := ⟨1, 58, [.t 2, .t 3], b122⟩

theorem c122 : chkFn Try.prog 122 v122 = true := by kernel_rfl

/- scholia/scholiaref01.join -/
def b123 : VCode := .seq (.region false [⟨some 4, .mov none (.k (.one (.iv (.sl true 0 [])))), [], none⟩])
  (.seq (.region false [⟨some 5, .mov none (.k (.one (.iv (.sl true 0 [])))), [], none⟩])
  (.seq (.region false [⟨some 6, .mov none (.t 5), [], none⟩,
    ⟨some 7, .mov none (.t 0), [], none⟩,
    ⟨some 8, .blt (.append 1 1) [.t 6, .t 7], [], none⟩,
    ⟨some 5, .mov none (.t 8), [], none⟩])
  (.seq (.region false [⟨some 9, .mov none (.t 5), [], none⟩,
    ⟨some 10, .mov none (.t 1), [], none⟩,
    ⟨some 11, .blt (.append 1 1) [.t 9, .t 10], [], none⟩,
    ⟨some 4, .mov none (.t 11), [], none⟩])
  (.ret))))
def v123 : VFn := ⟨2, 12, [.t 4], b123⟩

theorem c123 : chkFn Try.prog 123 v123 = true := by kernel_rfl

/- scholia/scholiaref01.Bytes -/
def l124_0 : VCode := .seq (.region false [⟨some 10, .bin .lss (.t 9) (.k (.one (.iv (.int .i64 9)))), [], none⟩])
  (.seq (.cond (.t 10) (.skip) (.exit 0))
  (.seq (.block 1 (.seq (.region false [⟨some 11, .mov none (.t 9), [], none⟩,
    ⟨some 4, .mov none (.t 11), [], none⟩])
  (.seq (.region false [⟨some 12, .mov none (.t 4), [], none⟩,
    ⟨some 13, .bin .lss (.t 12) (.k (.one (.iv (.int .i64 8)))), [], none⟩,
    ⟨some 14, .mov none (.t 13), [], none⟩,
    ⟨some 15, .mov none (.t 0), [], some (14, true)⟩,
    ⟨some 16, .mov none (.t 4), [], some (14, true)⟩,
    ⟨some 17, .bin .mul (.k (.one (.iv (.int .i64 7)))) (.t 16), [], some (14, true)⟩,
    ⟨some 18, .bin .add (.k (.one (.iv (.int .i64 7)))) (.t 17), [], some (14, true)⟩,
    ⟨some 19, .bin .shr (.t 15) (.t 18), [], some (14, true)⟩,
    ⟨some 20, .bin .neq (.t 19) (.k (.one (.iv (.int .u64 0)))), [], some (14, true)⟩,
    ⟨some 21, .pick (.t 14) (.t 20) (.k (.one (.iv (.bool false)))), [], none⟩])
  (.cond (.t 21) (.region false [⟨some 22, .mov none (.t 4), [], none⟩,
    ⟨some 23, .bin .add (.t 22) (.k (.one (.iv (.int .i64 1)))), [], none⟩,
    ⟨some 3, .mov none (.t 23), [], none⟩]) (.skip)))))
  (.region false [⟨some 24, .bin .add (.t 9) (.k (.one (.iv (.int .i64 1)))), [], none⟩,
    ⟨some 9, .mov none (.t 24), [], none⟩])))
def l124_1 : VCode := .seq (.region false [⟨some 27, .bin .lss (.t 26) (.t 25), [], none⟩])
  (.seq (.cond (.t 27) (.skip) (.exit 2))
  (.seq (.block 3 (.seq (.region false [⟨some 28, .mov none (.t 26), [], none⟩,
    ⟨some 6, .mov none (.t 28), [], none⟩])
  (.region false [⟨some 29, .mov none (.t 5), [], none⟩,
    ⟨some 30, .mov none (.t 6), [], none⟩,
    ⟨some 31, .bin .shr (.k (.one (.iv (.int .i64 128)))) (.t 30), [], none⟩,
    ⟨some 32, .bin .add (.t 29) (.t 31), [], none⟩,
    ⟨some 5, .mov none (.t 32), [], none⟩])))
  (.region false [⟨some 33, .bin .add (.t 26) (.k (.one (.iv (.int .i64 1)))), [], none⟩,
    ⟨some 26, .mov none (.t 33), [], none⟩])))
def l124_2 : VCode := .seq (.region false [⟨some 48, .bin .lss (.t 47) (.t 46), [], none⟩])
  (.seq (.cond (.t 48) (.skip) (.exit 4))
  (.seq (.block 5 (.seq (.region false [⟨some 49, .mov none (.t 47), [], none⟩,
    ⟨some 8, .mov none (.t 49), [], none⟩])
  (.region false [⟨some 50, .mov none (.t 7), [], none⟩,
    ⟨some 51, .mov none (.t 0), [], none⟩,
    ⟨some 52, .mov none (.t 3), [], none⟩,
    ⟨some 53, .bin .sub (.t 52) (.k (.one (.iv (.int .i64 1)))), [], none⟩,
    ⟨some 54, .mov none (.t 8), [], none⟩,
    ⟨some 55, .bin .sub (.t 53) (.t 54), [], none⟩,
    ⟨some 56, .bin .mul (.k (.one (.iv (.int .i64 8)))) (.t 55), [], none⟩,
    ⟨some 57, .bin .shr (.t 51) (.t 56), [], none⟩,
    ⟨some 58, .conv .u8 (.t 57), [], none⟩,
    ⟨some 59, .mks false 1 [.t 58], [], none⟩,
    ⟨some 60, .blt (.append 1 1) [.t 50, .t 59], [], none⟩,
    ⟨some 7, .mov none (.t 60), [], none⟩])))
  (.region false [⟨some 61, .bin .add (.t 47) (.k (.one (.iv (.int .i64 1)))), [], none⟩,
    ⟨some 47, .mov none (.t 61), [], none⟩])))
def b124 : VCode := .seq (.region false [⟨some 2, .mov none (.k (.one (.iv (.sl true 0 [])))), [], none⟩])
  (.seq (.region false [⟨some 3, .mov none (.k (.one (.iv (.int .i64 0)))), [], none⟩])
  (.seq (.seq (.region false [⟨some 9, .mov none (.k (.one (.iv (.int .i64 0)))), [], none⟩])
  (.block 0 (.loop false [0, 3, 9] l124_0)))
  (.seq (.region false [⟨some 5, .mov none (.k (.one (.iv (.int .i64 0)))), [], none⟩])
  (.seq (.seq (.region false [⟨some 25, .mov none (.t 3), [], none⟩,
    ⟨some 26, .mov none (.k (.one (.iv (.int .i64 0)))), [], none⟩])
  (.block 2 (.loop false [0, 3, 5, 25, 26] l124_1)))
  (.seq (.seq (.region false [⟨some 34, .mov none (.t 3), [], none⟩,
    ⟨some 35, .bin .lss (.t 34) (.k (.one (.iv (.int .i64 8)))), [], none⟩])
  (.cond (.t 35) (.region false [⟨some 36, .mov none (.t 5), [], none⟩,
    ⟨some 37, .mov none (.t 0), [], none⟩,
    ⟨some 38, .mov none (.t 3), [], none⟩,
    ⟨some 39, .bin .mul (.k (.one (.iv (.int .i64 8)))) (.t 38), [], none⟩,
    ⟨some 40, .bin .shr (.t 37) (.t 39), [], none⟩,
    ⟨some 41, .conv .i64 (.t 40), [], none⟩,
    ⟨some 42, .bin .add (.t 36) (.t 41), [], none⟩,
    ⟨some 5, .mov none (.t 42), [], none⟩]) (.skip)))
  (.seq (.region false [⟨some 43, .mov none (.t 5), [], none⟩,
    ⟨some 44, .conv .u8 (.t 43), [], none⟩,
    ⟨some 45, .mks true 1 [.t 44], [], none⟩,
    ⟨some 7, .mov none (.t 45), [], none⟩])
  (.seq (.seq (.region false [⟨some 46, .mov none (.t 3), [], none⟩,
    ⟨some 47, .mov none (.k (.one (.iv (.int .i64 0)))), [], none⟩])
  (.block 4 (.loop false [0, 3, 7, 46, 47] l124_2)))
  (.seq (.region false [⟨some 62, .mov none (.t 7), [], none⟩,
    ⟨some 2, .mov none (.t 62), [], none⟩])
  (.ret)))))))))
def v124 : VFn := ⟨1, 63, [.t 2], b124⟩

theorem c124 : chkFn Try.prog 124 v124 = true := by kernel_rfl

/- (*scholia/scholiaref01.In).any -/
def l125_0 : VCode := .seq (.region false [⟨some 16, .bin .lss (.t 15) (.k (.one (.iv (.int .i64 8)))), [], none⟩])
  (.seq (.cond (.t 16) (.skip) (.exit 0))
  (.seq (.block 1 (.seq (.region false [⟨some 17, .mov none (.t 15), [], none⟩,
    ⟨some 4, .mov none (.t 17), [], none⟩])
  (.seq (.region true [⟨some 18, .mov none (.t 3), [], none⟩,
    ⟨some 19, .mov none (.t 4), [], none⟩,
    ⟨some 20, .bin .eql (.t 18) (.t 19), [1, 0], none⟩,
    ⟨some 21, .mov none (.t 20), [2], none⟩,
    ⟨some 22, .mov none (.t 0), [3], some (21, true)⟩,
    ⟨some 23, .nilc (.t 22), [4], some (21, true)⟩,
    ⟨some 24, .fad 0 (.t 23), [5], some (21, true)⟩,
    ⟨some 25, .load false 1 (.t 24), [6], some (21, true)⟩,
    ⟨some 26, .ixS 1 (.t 25) (.k (.one (.iv (.int .i64 0)))), [7], some (21, true)⟩,
    ⟨some 27, .load false 1 (.t 26), [8], some (21, true)⟩,
    ⟨some 28, .mov none (.t 4), [3], some (21, true)⟩,
    ⟨some 29, .bin .shr (.k (.one (.iv (.int .u8 128)))) (.t 28), [10], some (21, true)⟩,
    ⟨some 30, .bin .and (.t 27) (.t 29), [11, 9], some (21, true)⟩,
    ⟨some 31, .bin .neq (.t 30) (.k (.one (.iv (.int .u8 0)))), [12], some (21, true)⟩,
    ⟨some 32, .pick (.t 21) (.t 31) (.k (.one (.iv (.bool false)))), [13], none⟩])
  (.cond (.t 32) (.region false [⟨some 33, .mov none (.t 4), [], none⟩,
    ⟨some 34, .bin .add (.t 33) (.k (.one (.iv (.int .i64 1)))), [], none⟩,
    ⟨some 3, .mov none (.t 34), [], none⟩]) (.skip)))))
  (.region false [⟨some 35, .bin .add (.t 15) (.k (.one (.iv (.int .i64 1)))), [], none⟩,
    ⟨some 15, .mov none (.t 35), [], none⟩])))
def l125_1 : VCode := .seq (.region false [⟨some 60, .bin .lss (.t 59) (.t 58), [], none⟩])
  (.seq (.cond (.t 60) (.skip) (.exit 2))
  (.seq (.block 3 (.seq (.region false [⟨some 61, .mov none (.t 59), [], none⟩,
    ⟨some 6, .mov none (.t 61), [], none⟩])
  (.region false [⟨some 62, .mov none (.t 5), [], none⟩,
    ⟨some 63, .bin .mul (.t 62) (.k (.one (.iv (.int .u64 256)))), [], none⟩,
    ⟨some 64, .mov none (.t 0), [], none⟩,
    ⟨some 65, .nilc (.t 64), [], none⟩,
    ⟨some 66, .fad 0 (.t 65), [], none⟩,
    ⟨some 67, .load false 1 (.t 66), [], none⟩,
    ⟨some 68, .mov none (.t 6), [], none⟩,
    ⟨some 69, .bin .add (.t 68) (.k (.one (.iv (.int .i64 1)))), [], none⟩,
    ⟨some 70, .ixS 1 (.t 67) (.t 69), [], none⟩,
    ⟨some 71, .load false 1 (.t 70), [], none⟩,
    ⟨some 72, .conv .u64 (.t 71), [], none⟩,
    ⟨some 73, .bin .add (.t 63) (.t 72), [], none⟩,
    ⟨some 5, .mov none (.t 73), [], none⟩])))
  (.region false [⟨some 74, .bin .add (.t 59) (.k (.one (.iv (.int .i64 1)))), [], none⟩,
    ⟨some 59, .mov none (.t 74), [], none⟩])))
def b125 : VCode := .seq (.region false [⟨some 2, .mov none (.k (.one (.iv (.int .u64 0)))), [], none⟩])
  (.seq (.seq (.region false [⟨some 7, .mov none (.t 0), [], none⟩,
    ⟨some 8, .nilc (.t 7), [], none⟩,
    ⟨some 9, .fad 0 (.t 8), [], none⟩,
    ⟨some 10, .load false 1 (.t 9), [], none⟩,
    ⟨some 11, .blt .len [.t 10], [], none⟩,
    ⟨some 12, .bin .eql (.t 11) (.k (.one (.iv (.int .i64 0)))), [], none⟩])
  (.cond (.t 12) (.seq (.region false [⟨some 13, .mov none (.t 0), [], none⟩,
    ⟨some 14, .call 126 [(false, .t 13), (false, .k (.one (.iv (.int .i64 4))))], [], none⟩])
  (.seq (.region false [⟨some 2, .mov none (.k (.one (.iv (.int .u64 0)))), [], none⟩])
  (.ret))) (.skip)))
  (.seq (.region false [⟨some 3, .mov none (.k (.one (.iv (.int .i64 0)))), [], none⟩])
  (.seq (.seq (.region false [⟨some 15, .mov none (.k (.one (.iv (.int .i64 0)))), [], none⟩])
  (.block 0 (.loop false [0, 3, 15] l125_0)))
  (.seq (.seq (.region false [⟨some 36, .mov none (.t 0), [], none⟩,
    ⟨some 37, .nilc (.t 36), [], none⟩,
    ⟨some 38, .fad 0 (.t 37), [], none⟩,
    ⟨some 39, .load false 1 (.t 38), [], none⟩,
    ⟨some 40, .blt .len [.t 39], [], none⟩,
    ⟨some 41, .mov none (.t 3), [], none⟩,
    ⟨some 42, .bin .add (.t 41) (.k (.one (.iv (.int .i64 1)))), [], none⟩,
    ⟨some 43, .bin .lss (.t 40) (.t 42), [], none⟩])
  (.cond (.t 43) (.seq (.region false [⟨some 44, .mov none (.t 0), [], none⟩,
    ⟨some 45, .call 126 [(false, .t 44), (false, .k (.one (.iv (.int .i64 4))))], [], none⟩])
  (.seq (.region false [⟨some 2, .mov none (.k (.one (.iv (.int .u64 0)))), [], none⟩])
  (.ret))) (.skip)))
  (.seq (.region false [⟨some 5, .mov none (.k (.one (.iv (.int .u64 0)))), [], none⟩])
  (.seq (.seq (.region false [⟨some 46, .mov none (.t 3), [], none⟩,
    ⟨some 47, .bin .lss (.t 46) (.k (.one (.iv (.int .i64 8)))), [], none⟩])
  (.cond (.t 47) (.region true [⟨some 48, .mov none (.t 0), [], none⟩,
    ⟨some 49, .nilc (.t 48), [0], none⟩,
    ⟨some 50, .fad 0 (.t 49), [1], none⟩,
    ⟨some 51, .load false 1 (.t 50), [2], none⟩,
    ⟨some 52, .ixS 1 (.t 51) (.k (.one (.iv (.int .i64 0)))), [3], none⟩,
    ⟨some 53, .load false 1 (.t 52), [4], none⟩,
    ⟨some 54, .conv .u64 (.t 53), [5], none⟩,
    ⟨some 55, .mov none (.t 3), [], none⟩,
    ⟨some 56, .bin .shr (.k (.one (.iv (.int .u64 128)))) (.t 55), [7], none⟩,
    ⟨some 57, .bin .rem (.t 54) (.t 56), [8, 6], none⟩,
    ⟨some 5, .mov none (.t 57), [9], none⟩]) (.skip)))
  (.seq (.seq (.region false [⟨some 58, .mov none (.t 3), [], none⟩,
    ⟨some 59, .mov none (.k (.one (.iv (.int .i64 0)))), [], none⟩])
  (.block 2 (.loop false [0, 3, 5, 58, 59] l125_1)))
  (.seq (.seq (.region false [⟨some 75, .mov none (.t 5), [], none⟩,
    ⟨some 76, .call 124 [(false, .t 75)], [], none⟩,
    ⟨some 77, .blt .len [.t 76], [], none⟩,
    ⟨some 78, .mov none (.t 3), [], none⟩,
    ⟨some 79, .bin .add (.t 78) (.k (.one (.iv (.int .i64 1)))), [], none⟩,
    ⟨some 80, .bin .neq (.t 77) (.t 79), [], none⟩])
  (.cond (.t 80) (.seq (.region false [⟨some 81, .mov none (.t 0), [], none⟩,
    ⟨some 82, .call 126 [(false, .t 81), (false, .k (.one (.iv (.int .i64 3))))], [], none⟩])
  (.seq (.region false [⟨some 2, .mov none (.k (.one (.iv (.int .u64 0)))), [], none⟩])
  (.ret))) (.skip)))
  (.seq (.region false [⟨some 83, .mov none (.t 0), [], none⟩,
    ⟨some 84, .mov none (.t 0), [], none⟩,
    ⟨some 85, .nilc (.t 84), [], none⟩,
    ⟨some 86, .fad 0 (.t 85), [], none⟩,
    ⟨some 87, .load false 1 (.t 86), [], none⟩,
    ⟨some 88, .mov none (.t 3), [], none⟩,
    ⟨some 89, .bin .add (.t 88) (.k (.one (.iv (.int .i64 1)))), [], none⟩,
    ⟨some 90, .slS 1 (.t 87) (some (.t 89)) none none, [], none⟩,
    ⟨some 91, .nilc (.t 83), [], none⟩,
    ⟨some 92, .fad 0 (.t 91), [], none⟩,
    ⟨none, .store 1 (.t 92) (.t 90), [], none⟩])
  (.seq (.region false [⟨some 93, .mov none (.t 5), [], none⟩,
    ⟨some 2, .mov none (.t 93), [], none⟩])
  (.ret)))))))))))
def v125 : VFn := ⟨1, 94, [.t 2], b125⟩

theorem c125 : chkFn Try.prog 125 v125 = true := by kernel_rfl

/- (*scholia/scholiaref01.In).Fail -/
def b126 : VCode := .seq (.region false [⟨some 4, .mov none (.t 0), [], none⟩,
    ⟨some 5, .nilc (.t 4), [], none⟩,
    ⟨some 6, .fad 1 (.t 5), [], none⟩,
    ⟨some 7, .load false 1 (.t 6), [], none⟩,
    ⟨some 8, .bin .eql (.t 7) (.k (.one (.iv (.int .i64 0)))), [], none⟩,
    ⟨some 9, .mov none (.t 8), [], none⟩,
    ⟨some 10, .mov none (.t 1), [], some (9, true)⟩,
    ⟨some 11, .bin .neq (.t 10) (.k (.one (.iv (.int .i64 0)))), [], some (9, true)⟩,
    ⟨some 12, .pick (.t 9) (.t 11) (.k (.one (.iv (.bool false)))), [], none⟩])
  (.cond (.t 12) (.seq (.region false [⟨some 13, .mov none (.t 0), [], none⟩,
    ⟨some 14, .mov none (.t 1), [], none⟩,
    ⟨some 15, .nilc (.t 13), [], none⟩,
    ⟨some 16, .fad 1 (.t 15), [], none⟩,
    ⟨none, .store 1 (.t 16) (.t 14), [], none⟩])
  (.region false [⟨some 17, .mov none (.t 0), [], none⟩,
    ⟨some 18, .nilc (.t 17), [], none⟩,
    ⟨some 19, .fad 0 (.t 18), [], none⟩,
    ⟨none, .store 1 (.t 19) (.k (.one (.iv (.sl true 0 [])))), [], none⟩])) (.skip))
def v126 : VFn := ⟨2, 20, [], b126⟩

theorem c126 : chkFn Try.prog 126 v126 = true := by kernel_rfl

/- scholia/docs.Name -/
def l129_0 : VCode := .seq (.region false [⟨some 16, .bin .lss (.t 15) (.t 14), [], none⟩])
  (.seq (.cond (.t 16) (.skip) (.exit 0))
  (.seq (.block 1 (.seq (.region false [⟨some 17, .ixS 1 (.t 13) (.t 15), [], none⟩,
    ⟨some 18, .load false 1 (.t 17), [], none⟩,
    ⟨some 4, .mov none (.t 18), [], none⟩])
  (.seq (.region false [⟨some 19, .mov none (.t 4), [], none⟩,
    ⟨some 20, .bin .lss (.t 19) (.k (.one (.iv (.int .u8 97)))), [], none⟩,
    ⟨some 21, .mov none (.t 20), [], none⟩,
    ⟨some 22, .mov none (.t 4), [], some (21, false)⟩,
    ⟨some 23, .bin .gtr (.t 22) (.k (.one (.iv (.int .u8 122)))), [], some (21, false)⟩,
    ⟨some 24, .pick (.t 21) (.k (.one (.iv (.bool true)))) (.t 23), [], none⟩,
    ⟨some 25, .mov none (.t 24), [], none⟩,
    ⟨some 26, .mov none (.t 4), [], some (25, true)⟩,
    ⟨some 27, .bin .lss (.t 26) (.k (.one (.iv (.int .u8 48)))), [], some (25, true)⟩,
    ⟨some 28, .mov none (.t 27), [], some (25, true)⟩,
    ⟨some 29, .mov none (.t 4), [], some (28, false)⟩,
    ⟨some 30, .bin .gtr (.t 29) (.k (.one (.iv (.int .u8 57)))), [], some (28, false)⟩,
    ⟨some 31, .pick (.t 28) (.k (.one (.iv (.bool true)))) (.t 30), [], some (25, true)⟩,
    ⟨some 32, .pick (.t 25) (.t 31) (.k (.one (.iv (.bool false)))), [], none⟩,
    ⟨some 33, .mov none (.t 32), [], none⟩,
    ⟨some 34, .mov none (.t 4), [], some (33, true)⟩,
    ⟨some 35, .bin .neq (.t 34) (.k (.one (.iv (.int .u8 45)))), [], some (33, true)⟩,
    ⟨some 36, .pick (.t 33) (.t 35) (.k (.one (.iv (.bool false)))), [], none⟩])
  (.cond (.t 36) (.seq (.region false [⟨some 2, .mov none (.k (.one (.iv (.bool false)))), [], none⟩])
  (.ret)) (.skip)))))
  (.region false [⟨some 37, .bin .add (.t 15) (.k (.one (.iv (.int .i64 1)))), [], none⟩,
    ⟨some 15, .mov none (.t 37), [], none⟩])))
def b129 : VCode := .seq (.region false [⟨some 2, .mov none (.k (.one (.iv (.bool false)))), [], none⟩])
  (.seq (.seq (.region false [⟨some 5, .mov none (.t 0), [], none⟩,
    ⟨some 6, .bin .eql (.t 5) (.k (.one (.iv (.str ⟨#[]⟩)))), [], none⟩,
    ⟨some 7, .mov none (.t 6), [], none⟩,
    ⟨some 8, .mov none (.t 0), [], some (7, false)⟩,
    ⟨some 9, .blt .lenS [.t 8], [], some (7, false)⟩,
    ⟨some 10, .bin .gtr (.t 9) (.k (.one (.iv (.int .i64 12)))), [], some (7, false)⟩,
    ⟨some 11, .pick (.t 7) (.k (.one (.iv (.bool true)))) (.t 10), [], none⟩])
  (.cond (.t 11) (.seq (.region false [⟨some 2, .mov none (.k (.one (.iv (.bool false)))), [], none⟩])
  (.ret)) (.skip)))
  (.seq (.seq (.region false [⟨some 12, .mov none (.t 0), [], none⟩,
    ⟨some 13, .s2b (.t 12), [], none⟩,
    ⟨some 14, .blt .len [.t 13], [], none⟩,
    ⟨some 15, .mov none (.k (.one (.iv (.int .i64 0)))), [], none⟩])
  (.block 0 (.loop false [13, 14, 15] l129_0)))
  (.seq (.region false [⟨some 2, .mov none (.k (.one (.iv (.bool true)))), [], none⟩])
  (.ret))))
def v129 : VFn := ⟨1, 38, [.t 2], b129⟩

theorem c129 : chkFn Try.prog 129 v129 = true := by kernel_rfl

/- scholia/docs.gone -/
def l130_0 : VCode := .seq (.region false [⟨some 10, .bin .lss (.t 9) (.t 8), [], none⟩])
  (.seq (.cond (.t 10) (.skip) (.exit 0))
  (.seq (.block 1 (.seq (.region false [⟨some 11, .mov none (.t 9), [], none⟩,
    ⟨some 12, .ixS 2 (.t 7) (.t 9), [], none⟩,
    ⟨some 13, .load true 2 (.t 12), [], none⟩,
    ⟨some 6, .new [.iv (.int .i64 0), .iv (.int .i64 0)], [], none⟩,
    ⟨some 5, .mov none (.t 11), [], none⟩,
    ⟨none, .store 2 (.t 6) (.t 13), [], none⟩])
  (.seq (.region true [⟨some 14, .load true 2 (.t 6), [], none⟩,
    ⟨some 15, .call 18 [(false, .t 14)], [0], none⟩,
    ⟨some 16, .un .not (.t 15), [1], none⟩,
    ⟨some 17, .mov none (.t 16), [2], none⟩,
    ⟨some 18, .load true 2 (.t 6), [3], some (17, false)⟩,
    ⟨some 19, .load true 2 (.t 2), [3], some (17, false)⟩,
    ⟨some 20, .eqa .eql ([.int] ++ [.int]) (.t 18) (.t 19), [5, 4], some (17, false)⟩,
    ⟨some 21, .pick (.t 17) (.k (.one (.iv (.bool true)))) (.t 20), [6], none⟩,
    ⟨some 22, .mov none (.t 21), [7], none⟩,
    ⟨some 23, .mov none (.t 5), [8], some (22, false)⟩,
    ⟨some 24, .bin .gtr (.t 23) (.k (.one (.iv (.int .i64 0)))), [9], some (22, false)⟩,
    ⟨some 25, .mov none (.t 24), [10], some (22, false)⟩,
    ⟨some 26, .mov none (.t 1), [11], some (25, true)⟩,
    ⟨some 27, .mov none (.t 5), [11], some (25, true)⟩,
    ⟨some 28, .bin .sub (.t 27) (.k (.one (.iv (.int .i64 1)))), [13], some (25, true)⟩,
    ⟨some 29, .ixS 2 (.t 26) (.t 28), [14, 12], some (25, true)⟩,
    ⟨some 30, .load true 2 (.t 29), [15], some (25, true)⟩,
    ⟨some 31, .load true 2 (.t 6), [11], some (25, true)⟩,
    ⟨some 32, .call 17 [(false, .t 30), (false, .t 31)], [17, 16], some (25, true)⟩,
    ⟨some 33, .bin .geq (.t 32) (.k (.one (.iv (.int .i64 0)))), [18], some (25, true)⟩,
    ⟨some 34, .pick (.t 25) (.t 33) (.k (.one (.iv (.bool false)))), [19], some (22, false)⟩,
    ⟨some 35, .pick (.t 22) (.k (.one (.iv (.bool true)))) (.t 34), [20], none⟩])
  (.cond (.t 35) (.seq (.region false [⟨some 4, .mov none (.k (.one (.iv (.bool false)))), [], none⟩])
  (.ret)) (.skip)))))
  (.region false [⟨some 36, .bin .add (.t 9) (.k (.one (.iv (.int .i64 1)))), [], none⟩,
    ⟨some 9, .mov none (.t 36), [], none⟩])))
def b130 : VCode := .seq (.region false [⟨some 2, .box (.t 0), [], none⟩,
    ⟨some 4, .mov none (.k (.one (.iv (.bool false)))), [], none⟩])
  (.seq (.seq (.region false [⟨some 7, .mov none (.t 1), [], none⟩,
    ⟨some 8, .blt .len [.t 7], [], none⟩,
    ⟨some 9, .mov none (.k (.one (.iv (.int .i64 0)))), [], none⟩])
  (.block 0 (.loop false [1, 2, 7, 8, 9] l130_0)))
  (.seq (.region false [⟨some 37, .mov none (.t 1), [], none⟩,
    ⟨some 38, .blt .len [.t 37], [], none⟩,
    ⟨some 39, .bin .leq (.t 38) (.k (.one (.iv (.int .i64 120)))), [], none⟩,
    ⟨some 4, .mov none (.t 39), [], none⟩])
  (.ret)))
def v130 : VFn := ⟨2, 40, [.t 4], b130⟩

theorem c130 : chkFn Try.prog 130 v130 = true := by kernel_rfl

/- scholia/docs.Text -/
def b131 : VCode := .seq (.region false [⟨some 4, .mov none (.k (.one (.iv (.int .i64 0)))), [], none⟩])
  (.seq (.block 0 (.seq (.region false [⟨some 6, .mov none (.t 0), [], none⟩,
    ⟨some 7, .bin .lss (.t 6) (.k (.one (.iv (.int .i64 0)))), [], none⟩,
    ⟨some 8, .mov none (.t 7), [], none⟩,
    ⟨some 9, .mov none (.t 0), [], some (8, false)⟩,
    ⟨some 10, .bin .gtr (.t 9) (.k (.one (.iv (.int .i64 4)))), [], some (8, false)⟩,
    ⟨some 11, .pick (.t 8) (.k (.one (.iv (.bool true)))) (.t 10), [], none⟩,
    ⟨some 12, .mov none (.t 11), [], none⟩,
    ⟨some 13, .mov none (.t 0), [], some (12, false)⟩,
    ⟨some 14, .bin .eql (.t 13) (.k (.one (.iv (.int .i64 0)))), [], some (12, false)⟩,
    ⟨some 15, .mov none (.t 14), [], some (12, false)⟩,
    ⟨some 16, .mov none (.t 1), [], some (15, true)⟩,
    ⟨some 17, .bin .neq (.t 16) (.k (.one (.iv (.str ⟨#[]⟩)))), [], some (15, true)⟩,
    ⟨some 18, .pick (.t 15) (.t 17) (.k (.one (.iv (.bool false)))), [], some (12, false)⟩,
    ⟨some 19, .pick (.t 12) (.k (.one (.iv (.bool true)))) (.t 18), [], none⟩,
    ⟨some 5, .mov none (.t 19), [], none⟩])
  (.cond (.t 5) (.seq (.region false [⟨some 4, .mov none (.k (.one (.iv (.int .i64 1)))), [], none⟩])
  (.ret)) (.seq (.region false [⟨some 21, .mov none (.t 1), [], none⟩,
    ⟨some 22, .blt .lenS [.t 21], [], none⟩,
    ⟨some 23, .bin .gtr (.t 22) (.k (.one (.iv (.int .i64 160)))), [], none⟩,
    ⟨some 20, .mov none (.t 23), [], none⟩])
  (.cond (.t 20) (.seq (.region false [⟨some 4, .mov none (.k (.one (.iv (.int .i64 5)))), [], none⟩])
  (.ret)) (.seq (.region false [⟨some 25, .mov none (.t 1), [], none⟩,
    ⟨some 26, .call 150 [(false, .t 25)], [], none⟩,
    ⟨some 27, .un .not (.t 26), [], none⟩,
    ⟨some 24, .mov none (.t 27), [], none⟩])
  (.cond (.t 24) (.seq (.region false [⟨some 4, .mov none (.k (.one (.iv (.int .i64 7)))), [], none⟩])
  (.ret)) (.skip))))))))
  (.seq (.region false [⟨some 4, .mov none (.k (.one (.iv (.int .i64 0)))), [], none⟩])
  (.ret)))
def v131 : VFn := ⟨2, 28, [.t 4], b131⟩

theorem c131 : chkFn Try.prog 131 v131 = true := by kernel_rfl

/- (*scholia/coder.In).take -/
def b132 : VCode := .seq (.region false [⟨some 4, .mov none (.k (.one (.iv (.sl true 0 [])))), [], none⟩,
    ⟨some 5, .mov none (.k (.one (.iv (.bool false)))), [], none⟩])
  (.seq (.seq (.region false [⟨some 7, .mov none (.t 0), [], none⟩,
    ⟨some 8, .eqs .eql .ptr (.t 7) (.k (.one (.iv .nilp))), [], none⟩,
    ⟨some 9, .mov none (.t 8), [], none⟩,
    ⟨some 10, .mov none (.t 0), [], some (9, false)⟩,
    ⟨some 11, .nilc (.t 10), [], some (9, false)⟩,
    ⟨some 12, .fad 2 (.t 11), [], some (9, false)⟩,
    ⟨some 13, .load false 1 (.t 12), [], some (9, false)⟩,
    ⟨some 14, .un .not (.t 13), [], some (9, false)⟩,
    ⟨some 15, .pick (.t 9) (.k (.one (.iv (.bool true)))) (.t 14), [], none⟩,
    ⟨some 16, .mov none (.t 15), [], none⟩,
    ⟨some 17, .mov none (.t 0), [], some (16, false)⟩,
    ⟨some 18, .nilc (.t 17), [], some (16, false)⟩,
    ⟨some 19, .fad 1 (.t 18), [], some (16, false)⟩,
    ⟨some 20, .load false 1 (.t 19), [], some (16, false)⟩,
    ⟨some 21, .bin .neq (.t 20) (.k (.one (.iv (.int .i64 0)))), [], some (16, false)⟩,
    ⟨some 22, .pick (.t 16) (.k (.one (.iv (.bool true)))) (.t 21), [], none⟩])
  (.cond (.t 22) (.seq (.region false [⟨some 4, .mov none (.k (.one (.iv (.sl true 0 [])))), [], none⟩,
    ⟨some 5, .mov none (.k (.one (.iv (.bool false)))), [], none⟩])
  (.ret)) (.skip)))
  (.seq (.seq (.region false [⟨some 23, .mov none (.t 1), [], none⟩,
    ⟨some 24, .mov none (.t 0), [], none⟩,
    ⟨some 25, .nilc (.t 24), [], none⟩,
    ⟨some 26, .fad 0 (.t 25), [], none⟩,
    ⟨some 27, .load false 1 (.t 26), [], none⟩,
    ⟨some 28, .blt .len [.t 27], [], none⟩,
    ⟨some 29, .bin .gtr (.t 23) (.t 28), [], none⟩])
  (.cond (.t 29) (.seq (.region false [⟨some 30, .mov none (.t 0), [], none⟩,
    ⟨some 31, .call 110 [(false, .t 30), (false, .k (.one (.iv (.int .i64 4))))], [], none⟩])
  (.seq (.region false [⟨some 4, .mov none (.k (.one (.iv (.sl true 0 [])))), [], none⟩,
    ⟨some 5, .mov none (.k (.one (.iv (.bool false)))), [], none⟩])
  (.ret))) (.skip)))
  (.seq (.region false [⟨some 32, .mov none (.t 0), [], none⟩,
    ⟨some 33, .nilc (.t 32), [], none⟩,
    ⟨some 34, .fad 0 (.t 33), [], none⟩,
    ⟨some 35, .load false 1 (.t 34), [], none⟩,
    ⟨some 36, .mov none (.t 1), [], none⟩,
    ⟨some 37, .mov none (.t 1), [], none⟩,
    ⟨some 38, .slS 1 (.t 35) none (some (.t 36)) (some (.t 37)), [], none⟩,
    ⟨some 6, .mov none (.t 38), [], none⟩])
  (.seq (.region false [⟨some 39, .mov none (.t 0), [], none⟩,
    ⟨some 40, .mov none (.t 0), [], none⟩,
    ⟨some 41, .nilc (.t 40), [], none⟩,
    ⟨some 42, .fad 0 (.t 41), [], none⟩,
    ⟨some 43, .load false 1 (.t 42), [], none⟩,
    ⟨some 44, .mov none (.t 1), [], none⟩,
    ⟨some 45, .slS 1 (.t 43) (some (.t 44)) none none, [], none⟩,
    ⟨some 46, .nilc (.t 39), [], none⟩,
    ⟨some 47, .fad 0 (.t 46), [], none⟩,
    ⟨none, .store 1 (.t 47) (.t 45), [], none⟩])
  (.seq (.region false [⟨some 48, .mov none (.t 6), [], none⟩,
    ⟨some 4, .mov none (.t 48), [], none⟩,
    ⟨some 5, .mov none (.k (.one (.iv (.bool true)))), [], none⟩])
  (.ret))))))
def v132 : VFn := ⟨2, 49, [.t 4, .t 5], b132⟩

theorem c132 : chkFn Try.prog 132 v132 = true := by kernel_rfl

/- scholia/scholiaref12.Check -/
def l133_0 : VCode := .seq (.region false [⟨some 35, .bin .lss (.t 34) (.t 33), [], none⟩])
  (.seq (.cond (.t 35) (.skip) (.exit 0))
  (.seq (.block 1 (.seq (.region false [⟨some 36, .mov none (.t 34), [], none⟩,
    ⟨some 37, .ixS 2 (.t 32) (.t 34), [], none⟩,
    ⟨some 38, .load true 2 (.t 37), [], none⟩,
    ⟨some 4, .new [.iv (.int .i64 0), .iv (.int .i64 0)], [], none⟩,
    ⟨some 3, .mov none (.t 36), [], none⟩,
    ⟨none, .store 2 (.t 4) (.t 38), [], none⟩])
  (.seq (.region true [⟨some 39, .load true 2 (.t 4), [], none⟩,
    ⟨some 40, .call 19 [(false, .t 39)], [0], none⟩,
    ⟨some 41, .un .not (.t 40), [1], none⟩,
    ⟨some 42, .mov none (.t 41), [2], none⟩,
    ⟨some 43, .load true 2 (.t 4), [3], some (42, false)⟩,
    ⟨some 44, .fad 0 (.t 1), [3], some (42, false)⟩,
    ⟨some 45, .load true 2 (.t 44), [5], some (42, false)⟩,
    ⟨some 46, .eqa .eql ([.int] ++ [.int]) (.t 43) (.t 45), [6, 4], some (42, false)⟩,
    ⟨some 47, .pick (.t 42) (.k (.one (.iv (.bool true)))) (.t 46), [7], none⟩,
    ⟨some 48, .mov none (.t 47), [8], none⟩,
    ⟨some 49, .mov none (.t 3), [9], some (48, false)⟩,
    ⟨some 50, .bin .gtr (.t 49) (.k (.one (.iv (.int .i64 0)))), [10], some (48, false)⟩,
    ⟨some 51, .mov none (.t 50), [11], some (48, false)⟩,
    ⟨some 52, .fad 7 (.t 1), [12], some (51, true)⟩,
    ⟨some 53, .load false 1 (.t 52), [13], some (51, true)⟩,
    ⟨some 54, .mov none (.t 3), [12], some (51, true)⟩,
    ⟨some 55, .bin .sub (.t 54) (.k (.one (.iv (.int .i64 1)))), [15], some (51, true)⟩,
    ⟨some 56, .ixS 2 (.t 53) (.t 55), [16, 14], some (51, true)⟩,
    ⟨some 57, .load true 2 (.t 56), [17], some (51, true)⟩,
    ⟨some 58, .load true 2 (.t 4), [12], some (51, true)⟩,
    ⟨some 59, .call 20 [(false, .t 57), (false, .t 58)], [19, 18], some (51, true)⟩,
    ⟨some 60, .un .not (.t 59), [20], some (51, true)⟩,
    ⟨some 61, .pick (.t 51) (.t 60) (.k (.one (.iv (.bool false)))), [21], some (48, false)⟩,
    ⟨some 62, .pick (.t 48) (.k (.one (.iv (.bool true)))) (.t 61), [22], none⟩])
  (.cond (.t 62) (.seq (.region false [⟨some 2, .mov none (.k (.one (.iv (.int .i64 1)))), [], none⟩])
  (.ret)) (.skip)))))
  (.region false [⟨some 63, .bin .add (.t 34) (.k (.one (.iv (.int .i64 1)))), [], none⟩,
    ⟨some 34, .mov none (.t 63), [], none⟩])))
def b133 : VCode := .seq (.region false [⟨some 1, .box (.t 0), [], none⟩,
    ⟨some 2, .mov none (.k (.one (.iv (.int .i64 0)))), [], none⟩])
  (.seq (.seq (.region false [⟨some 5, .fad 0 (.t 1), [], none⟩,
    ⟨some 6, .load true 2 (.t 5), [], none⟩,
    ⟨some 7, .call 19 [(false, .t 6)], [], none⟩,
    ⟨some 8, .un .not (.t 7), [], none⟩,
    ⟨some 9, .mov none (.t 8), [], none⟩,
    ⟨some 10, .fad 2 (.t 1), [], some (9, false)⟩,
    ⟨some 11, .load false 1 (.t 10), [], some (9, false)⟩,
    ⟨some 12, .bin .lss (.t 11) (.k (.one (.iv (.int .i64 1)))), [], some (9, false)⟩,
    ⟨some 13, .pick (.t 9) (.k (.one (.iv (.bool true)))) (.t 12), [], none⟩,
    ⟨some 14, .mov none (.t 13), [], none⟩,
    ⟨some 15, .fad 2 (.t 1), [], some (14, false)⟩,
    ⟨some 16, .load false 1 (.t 15), [], some (14, false)⟩,
    ⟨some 17, .bin .gtr (.t 16) (.k (.one (.iv (.int .i64 1099511627776)))), [], some (14, false)⟩,
    ⟨some 18, .pick (.t 14) (.k (.one (.iv (.bool true)))) (.t 17), [], none⟩,
    ⟨some 19, .mov none (.t 18), [], none⟩,
    ⟨some 20, .fad 4 (.t 1), [], some (19, false)⟩,
    ⟨some 21, .load false 1 (.t 20), [], some (19, false)⟩,
    ⟨some 22, .call 151 [(false, .t 21)], [], some (19, false)⟩,
    ⟨some 23, .un .not (.t 22), [], some (19, false)⟩,
    ⟨some 24, .pick (.t 19) (.k (.one (.iv (.bool true)))) (.t 23), [], none⟩,
    ⟨some 25, .mov none (.t 24), [], none⟩,
    ⟨some 26, .fad 7 (.t 1), [], some (25, false)⟩,
    ⟨some 27, .load false 1 (.t 26), [], some (25, false)⟩,
    ⟨some 28, .blt .len [.t 27], [], some (25, false)⟩,
    ⟨some 29, .bin .gtr (.t 28) (.k (.one (.iv (.int .i64 120)))), [], some (25, false)⟩,
    ⟨some 30, .pick (.t 25) (.k (.one (.iv (.bool true)))) (.t 29), [], none⟩])
  (.cond (.t 30) (.seq (.region false [⟨some 2, .mov none (.k (.one (.iv (.int .i64 1)))), [], none⟩])
  (.ret)) (.skip)))
  (.seq (.seq (.region false [⟨some 31, .fad 7 (.t 1), [], none⟩,
    ⟨some 32, .load false 1 (.t 31), [], none⟩,
    ⟨some 33, .blt .len [.t 32], [], none⟩,
    ⟨some 34, .mov none (.k (.one (.iv (.int .i64 0)))), [], none⟩])
  (.block 0 (.loop false [1, 32, 33, 34] l133_0)))
  (.seq (.seq (.region false [⟨some 64, .fad 3 (.t 1), [], none⟩,
    ⟨some 65, .load false 1 (.t 64), [], none⟩,
    ⟨some 66, .bin .eql (.t 65) (.k (.one (.iv (.int .i64 2)))), [], none⟩,
    ⟨some 67, .mov none (.t 66), [], none⟩,
    ⟨some 68, .fad 5 (.t 1), [], some (67, true)⟩,
    ⟨some 69, .load false 1 (.t 68), [], some (67, true)⟩,
    ⟨some 70, .bin .eql (.t 69) (.k (.one (.iv (.int .i64 0)))), [], some (67, true)⟩,
    ⟨some 71, .pick (.t 67) (.t 70) (.k (.one (.iv (.bool false)))), [], none⟩,
    ⟨some 72, .mov none (.t 71), [], none⟩,
    ⟨some 73, .fad 6 (.t 1), [], some (72, true)⟩,
    ⟨some 74, .load false 1 (.t 73), [], some (72, true)⟩,
    ⟨some 75, .bin .eql (.t 74) (.k (.one (.iv (.str ⟨#[]⟩)))), [], some (72, true)⟩,
    ⟨some 76, .pick (.t 72) (.t 75) (.k (.one (.iv (.bool false)))), [], none⟩])
  (.cond (.t 76) (.seq (.region false [⟨some 2, .mov none (.k (.one (.iv (.int .i64 0)))), [], none⟩])
  (.ret)) (.skip)))
  (.seq (.seq (.region false [⟨some 77, .fad 3 (.t 1), [], none⟩,
    ⟨some 78, .load false 1 (.t 77), [], none⟩,
    ⟨some 79, .bin .neq (.t 78) (.k (.one (.iv (.int .i64 1)))), [], none⟩])
  (.cond (.t 79) (.seq (.region false [⟨some 2, .mov none (.k (.one (.iv (.int .i64 1)))), [], none⟩])
  (.ret)) (.skip)))
  (.seq (.region false [⟨some 80, .fad 5 (.t 1), [], none⟩,
    ⟨some 81, .load false 1 (.t 80), [], none⟩,
    ⟨some 82, .fad 6 (.t 1), [], none⟩,
    ⟨some 83, .load false 1 (.t 82), [], none⟩,
    ⟨some 84, .call 152 [(false, .t 81), (false, .t 83)], [], none⟩,
    ⟨some 2, .mov none (.t 84), [], none⟩])
  (.ret))))))
def v133 : VFn := ⟨1, 85, [.t 2], b133⟩

theorem c133 : chkFn Try.prog 133 v133 = true := by kernel_rfl

/- scholia/scholiaref12.PutDot -/
def b134 : VCode := .seq (.region false [⟨some 3, .box (.t 1), [], none⟩,
    ⟨some 4, .mov none (.k (.one (.iv (.sl true 0 [])))), [], none⟩])
  (.seq (.region true [⟨some 5, .mov none (.t 0), [], none⟩,
    ⟨some 6, .fad 0 (.t 3), [], none⟩,
    ⟨some 7, .load false 1 (.t 6), [1], none⟩,
    ⟨some 8, .call 94 [(false, .t 5), (false, .t 7)], [2, 0], none⟩,
    ⟨some 9, .fad 1 (.t 3), [], none⟩,
    ⟨some 10, .load false 1 (.t 9), [4], none⟩,
    ⟨some 11, .call 94 [(false, .t 8), (false, .t 10)], [5, 3], none⟩,
    ⟨some 4, .mov none (.t 11), [6], none⟩])
  (.ret))
def v134 : VFn := ⟨2, 12, [.t 4], b134⟩

theorem c134 : chkFn Try.prog 134 v134 = true := by kernel_rfl

/- scholia/scholiaref01.Text -/
def b135 : VCode := .seq (.region false [⟨some 4, .mov none (.k (.one (.iv (.sl true 0 [])))), [], none⟩])
  (.seq (.region false [⟨some 5, .mov none (.t 0), [], none⟩,
    ⟨some 6, .mov none (.t 1), [], none⟩,
    ⟨some 7, .blt .lenS [.t 6], [], none⟩,
    ⟨some 8, .call 94 [(false, .t 5), (false, .t 7)], [], none⟩,
    ⟨some 9, .mov none (.t 1), [], none⟩,
    ⟨some 10, .s2b (.t 9), [], none⟩,
    ⟨some 11, .call 123 [(false, .t 8), (false, .t 10)], [], none⟩,
    ⟨some 4, .mov none (.t 11), [], none⟩])
  (.ret))
def v135 : VFn := ⟨2, 12, [.t 4], b135⟩

theorem c135 : chkFn Try.prog 135 v135 = true := by kernel_rfl

/- scholia/scholiaref12.ReadDot -/
def b136 : VCode := .seq (.region false [⟨some 2, .new [.iv (.int .i64 0), .iv (.int .i64 0)], [], none⟩])
  (.seq (.region false [⟨some 4, .mov none (.t 0), [], none⟩,
    ⟨some 5, .call 96 [(false, .t 4), (false, .k (.one (.iv (.int .i64 63))))], [], none⟩,
    ⟨some 6, .build [.iv (.int .i64 0), .iv (.int .i64 0)] [(0, 1, .t 5)], [], none⟩,
    ⟨some 3, .new [.iv (.int .i64 0), .iv (.int .i64 0)], [], none⟩,
    ⟨none, .store 2 (.t 3) (.t 6), [], none⟩])
  (.seq (.region false [⟨some 7, .mov none (.t 0), [], none⟩,
    ⟨some 8, .call 96 [(false, .t 7), (false, .k (.one (.iv (.int .i64 1073741824))))], [], none⟩,
    ⟨some 9, .fad 1 (.t 3), [], none⟩,
    ⟨none, .store 1 (.t 9) (.t 8), [], none⟩])
  (.seq (.region false [⟨some 10, .load true 2 (.t 3), [], none⟩,
    ⟨none, .store 2 (.t 2) (.t 10), [], none⟩])
  (.ret))))
def v136 : VFn := ⟨1, 11, [.c 2 true 2], b136⟩

theorem c136 : chkFn Try.prog 136 v136 = true := by kernel_rfl

/- (*scholia/scholiaref01.In).Text -/
def b137 : VCode := .seq (.region false [⟨some 4, .mov none (.k (.one (.iv (.str ⟨#[]⟩)))), [], none⟩])
  (.seq (.region false [⟨some 7, .mov none (.t 0), [], none⟩,
    ⟨some 8, .mov none (.t 1), [], none⟩,
    ⟨some 9, .call 96 [(false, .t 7), (false, .t 8)], [], none⟩,
    ⟨some 5, .mov none (.t 9), [], none⟩])
  (.seq (.seq (.region false [⟨some 10, .mov none (.t 5), [], none⟩,
    ⟨some 11, .mov none (.t 0), [], none⟩,
    ⟨some 12, .nilc (.t 11), [], none⟩,
    ⟨some 13, .fad 0 (.t 12), [], none⟩,
    ⟨some 14, .load false 1 (.t 13), [], none⟩,
    ⟨some 15, .blt .len [.t 14], [], none⟩,
    ⟨some 16, .bin .gtr (.t 10) (.t 15), [], none⟩])
  (.cond (.t 16) (.seq (.region false [⟨some 17, .mov none (.t 0), [], none⟩,
    ⟨some 18, .call 126 [(false, .t 17), (false, .k (.one (.iv (.int .i64 4))))], [], none⟩])
  (.seq (.region false [⟨some 4, .mov none (.k (.one (.iv (.str ⟨#[]⟩)))), [], none⟩])
  (.ret))) (.skip)))
  (.seq (.region false [⟨some 19, .mov none (.t 0), [], none⟩,
    ⟨some 20, .nilc (.t 19), [], none⟩,
    ⟨some 21, .fad 0 (.t 20), [], none⟩,
    ⟨some 22, .load false 1 (.t 21), [], none⟩,
    ⟨some 23, .mov none (.t 5), [], none⟩,
    ⟨some 24, .slS 1 (.t 22) none (some (.t 23)) none, [], none⟩,
    ⟨some 25, .b2s (.t 24), [], none⟩,
    ⟨some 6, .mov none (.t 25), [], none⟩])
  (.seq (.region false [⟨some 26, .mov none (.t 0), [], none⟩,
    ⟨some 27, .mov none (.t 0), [], none⟩,
    ⟨some 28, .nilc (.t 27), [], none⟩,
    ⟨some 29, .fad 0 (.t 28), [], none⟩,
    ⟨some 30, .load false 1 (.t 29), [], none⟩,
    ⟨some 31, .mov none (.t 5), [], none⟩,
    ⟨some 32, .slS 1 (.t 30) (some (.t 31)) none none, [], none⟩,
    ⟨some 33, .nilc (.t 26), [], none⟩,
    ⟨some 34, .fad 0 (.t 33), [], none⟩,
    ⟨none, .store 1 (.t 34) (.t 32), [], none⟩])
  (.seq (.region false [⟨some 35, .mov none (.t 6), [], none⟩,
    ⟨some 4, .mov none (.t 35), [], none⟩])
  (.ret))))))
def v137 : VFn := ⟨2, 36, [.t 4], b137⟩

theorem c137 : chkFn Try.prog 137 v137 = true := by kernel_rfl

/- slices.IndexFunc[[]int,int] -/
def l138_0 : VCode := .seq (.region false [⟨some 9, .bin .lss (.t 8) (.t 7), [], none⟩])
  (.seq (.cond (.t 9) (.skip) (.exit 0))
  (.seq (.block 1 (.seq (.region false [⟨some 10, .mov none (.t 8), [], none⟩,
    ⟨some 5, .mov none (.t 10), [], none⟩])
  (.seq (.region false [⟨some 11, .mov none (.t 1), [], none⟩,
    ⟨some 12, .mov none (.t 0), [], none⟩,
    ⟨some 13, .mov none (.t 5), [], none⟩,
    ⟨some 14, .ixS 1 (.t 12) (.t 13), [], none⟩,
    ⟨some 15, .load false 1 (.t 14), [], none⟩,
    ⟨some 16, .callv (.t 11) [(false, .t 15)], [], none⟩])
  (.cond (.t 16) (.seq (.region false [⟨some 17, .mov none (.t 5), [], none⟩,
    ⟨some 4, .mov none (.t 17), [], none⟩])
  (.ret)) (.skip)))))
  (.region false [⟨some 18, .bin .add (.t 8) (.k (.one (.iv (.int .i64 1)))), [], none⟩,
    ⟨some 8, .mov none (.t 18), [], none⟩])))
def b138 : VCode := .seq (.region false [⟨some 4, .mov none (.k (.one (.iv (.int .i64 0)))), [], none⟩])
  (.seq (.seq (.region false [⟨some 6, .mov none (.t 0), [], none⟩,
    ⟨some 7, .blt .len [.t 6], [], none⟩,
    ⟨some 8, .mov none (.k (.one (.iv (.int .i64 0)))), [], none⟩])
  (.block 0 (.loop false [0, 1, 7, 8] l138_0)))
  (.seq (.region false [⟨some 4, .mov none (.k (.one (.iv (.int .i64 (-1))))), [], none⟩])
  (.ret)))
def v138 : VFn := ⟨2, 19, [.t 4], b138⟩

theorem c138 : chkFn Try.prog 138 v138 = true := by kernel_rfl

/- slices.insertionSortCmpFunc[scholia/api.Dot] -/
def l139_1 : VCode := .seq (.seq (.region true [⟨some 18, .mov none (.t 9), [], none⟩,
    ⟨some 19, .mov none (.t 1), [], none⟩,
    ⟨some 20, .bin .gtr (.t 18) (.t 19), [1, 0], none⟩,
    ⟨some 21, .mov none (.t 20), [2], none⟩,
    ⟨some 22, .mov none (.t 3), [3], some (21, true)⟩,
    ⟨some 23, .mov none (.t 0), [3], some (21, true)⟩,
    ⟨some 24, .mov none (.t 9), [3], some (21, true)⟩,
    ⟨some 25, .ixS 2 (.t 23) (.t 24), [6, 5], some (21, true)⟩,
    ⟨some 26, .load true 2 (.t 25), [7], some (21, true)⟩,
    ⟨some 27, .mov none (.t 0), [3], some (21, true)⟩,
    ⟨some 28, .mov none (.t 9), [3], some (21, true)⟩,
    ⟨some 29, .bin .sub (.t 28) (.k (.one (.iv (.int .i64 1)))), [10], some (21, true)⟩,
    ⟨some 30, .ixS 2 (.t 27) (.t 29), [11, 9], some (21, true)⟩,
    ⟨some 31, .load true 2 (.t 30), [12], some (21, true)⟩,
    ⟨some 32, .callv (.t 22) [(false, .t 26), (false, .t 31)], [13, 8, 4], some (21, true)⟩,
    ⟨some 33, .bin .lss (.t 32) (.k (.one (.iv (.int .i64 0)))), [14], some (21, true)⟩,
    ⟨some 34, .pick (.t 21) (.t 33) (.k (.one (.iv (.bool false)))), [15], none⟩])
  (.cond (.t 34) (.skip) (.exit 2)))
  (.seq (.block 3 (.region true [⟨some 37, .mov none (.t 0), [], none⟩,
    ⟨some 38, .mov none (.t 9), [], none⟩,
    ⟨some 39, .mov none (.t 0), [], none⟩,
    ⟨some 40, .mov none (.t 9), [], none⟩,
    ⟨some 41, .bin .sub (.t 40) (.k (.one (.iv (.int .i64 1)))), [3], none⟩,
    ⟨some 42, .mov none (.t 0), [], none⟩,
    ⟨some 43, .mov none (.t 9), [], none⟩,
    ⟨some 44, .bin .sub (.t 43) (.k (.one (.iv (.int .i64 1)))), [6], none⟩,
    ⟨some 45, .ixS 2 (.t 42) (.t 44), [7, 5], none⟩,
    ⟨some 46, .load true 2 (.t 45), [8], none⟩,
    ⟨some 47, .mov none (.t 0), [], none⟩,
    ⟨some 48, .mov none (.t 9), [], none⟩,
    ⟨some 49, .ixS 2 (.t 47) (.t 48), [11, 10], none⟩,
    ⟨some 50, .load true 2 (.t 49), [12], none⟩,
    ⟨some 51, .ixS 2 (.t 37) (.t 38), [13, 9, 1, 0], none⟩,
    ⟨none, .store 2 (.t 51) (.t 46), [14], none⟩,
    ⟨some 52, .ixS 2 (.t 39) (.t 41), [15, 4, 2], none⟩,
    ⟨none, .store 2 (.t 52) (.t 50), [16], none⟩]))
  (.region false [⟨some 35, .mov none (.t 9), [], none⟩,
    ⟨some 36, .bin .sub (.t 35) (.k (.one (.iv (.int .i64 1)))), [], none⟩,
    ⟨some 9, .mov none (.t 36), [], none⟩]))
def l139_0 : VCode := .seq (.seq (.region false [⟨some 12, .mov none (.t 8), [], none⟩,
    ⟨some 13, .mov none (.t 2), [], none⟩,
    ⟨some 14, .bin .lss (.t 12) (.t 13), [], none⟩])
  (.cond (.t 14) (.skip) (.exit 0)))
  (.seq (.block 1 (.seq (.region false [⟨some 17, .mov none (.t 8), [], none⟩,
    ⟨some 9, .mov none (.t 17), [], none⟩])
  (.block 2 (.loop false [0, 1, 2, 3, 8, 9] l139_1))))
  (.region false [⟨some 15, .mov none (.t 8), [], none⟩,
    ⟨some 16, .bin .add (.t 15) (.k (.one (.iv (.int .i64 1)))), [], none⟩,
    ⟨some 8, .mov none (.t 16), [], none⟩]))
def b139 : VCode := .seq (.region false [⟨some 10, .mov none (.t 1), [], none⟩,
    ⟨some 11, .bin .add (.t 10) (.k (.one (.iv (.int .i64 1)))), [], none⟩,
    ⟨some 8, .mov none (.t 11), [], none⟩])
  (.block 0 (.loop false [0, 1, 2, 3, 8] l139_0))
def v139 : VFn := ⟨4, 53, [], b139⟩

theorem c139 : chkFn Try.prog 139 v139 = true := by kernel_rfl

/- slices.heapSortCmpFunc[scholia/api.Dot] -/
def l140_0 : VCode := .seq (.seq (.region false [⟨some 20, .mov none (.t 11), [], none⟩,
    ⟨some 21, .bin .geq (.t 20) (.k (.one (.iv (.int .i64 0)))), [], none⟩])
  (.cond (.t 21) (.skip) (.exit 0)))
  (.seq (.block 1 (.region false [⟨some 24, .mov none (.t 0), [], none⟩,
    ⟨some 25, .mov none (.t 11), [], none⟩,
    ⟨some 26, .mov none (.t 10), [], none⟩,
    ⟨some 27, .mov none (.t 8), [], none⟩,
    ⟨some 28, .mov none (.t 3), [], none⟩,
    ⟨some 29, .call 153 [(true, .t 24), (false, .t 25), (false, .t 26), (false, .t 27), (false, .t 28)], [], none⟩]))
  (.region false [⟨some 22, .mov none (.t 11), [], none⟩,
    ⟨some 23, .bin .sub (.t 22) (.k (.one (.iv (.int .i64 1)))), [], none⟩,
    ⟨some 11, .mov none (.t 23), [], none⟩]))
def l140_1 : VCode := .seq (.seq (.region false [⟨some 32, .mov none (.t 12), [], none⟩,
    ⟨some 33, .bin .geq (.t 32) (.k (.one (.iv (.int .i64 0)))), [], none⟩])
  (.cond (.t 33) (.skip) (.exit 2)))
  (.seq (.block 3 (.seq (.region true [⟨some 36, .mov none (.t 0), [], none⟩,
    ⟨some 37, .mov none (.t 8), [], none⟩,
    ⟨some 38, .mov none (.t 0), [], none⟩,
    ⟨some 39, .mov none (.t 8), [], none⟩,
    ⟨some 40, .mov none (.t 12), [], none⟩,
    ⟨some 41, .bin .add (.t 39) (.t 40), [4, 3], none⟩,
    ⟨some 42, .mov none (.t 0), [], none⟩,
    ⟨some 43, .mov none (.t 8), [], none⟩,
    ⟨some 44, .mov none (.t 12), [], none⟩,
    ⟨some 45, .bin .add (.t 43) (.t 44), [8, 7], none⟩,
    ⟨some 46, .ixS 2 (.t 42) (.t 45), [9, 6], none⟩,
    ⟨some 47, .load true 2 (.t 46), [10], none⟩,
    ⟨some 48, .mov none (.t 0), [], none⟩,
    ⟨some 49, .mov none (.t 8), [], none⟩,
    ⟨some 50, .ixS 2 (.t 48) (.t 49), [13, 12], none⟩,
    ⟨some 51, .load true 2 (.t 50), [14], none⟩,
    ⟨some 52, .ixS 2 (.t 36) (.t 37), [15, 11, 1, 0], none⟩,
    ⟨none, .store 2 (.t 52) (.t 47), [16], none⟩,
    ⟨some 53, .ixS 2 (.t 38) (.t 41), [17, 5, 2], none⟩,
    ⟨none, .store 2 (.t 53) (.t 51), [18], none⟩])
  (.region false [⟨some 54, .mov none (.t 0), [], none⟩,
    ⟨some 55, .mov none (.t 9), [], none⟩,
    ⟨some 56, .mov none (.t 12), [], none⟩,
    ⟨some 57, .mov none (.t 8), [], none⟩,
    ⟨some 58, .mov none (.t 3), [], none⟩,
    ⟨some 59, .call 153 [(true, .t 54), (false, .t 55), (false, .t 56), (false, .t 57), (false, .t 58)], [], none⟩])))
  (.region false [⟨some 34, .mov none (.t 12), [], none⟩,
    ⟨some 35, .bin .sub (.t 34) (.k (.one (.iv (.int .i64 1)))), [], none⟩,
    ⟨some 12, .mov none (.t 35), [], none⟩]))
def b140 : VCode := .seq (.region false [⟨some 13, .mov none (.t 1), [], none⟩,
    ⟨some 8, .mov none (.t 13), [], none⟩])
  (.seq (.region false [⟨some 9, .mov none (.k (.one (.iv (.int .i64 0)))), [], none⟩])
  (.seq (.region false [⟨some 14, .mov none (.t 2), [], none⟩,
    ⟨some 15, .mov none (.t 1), [], none⟩,
    ⟨some 16, .bin .sub (.t 14) (.t 15), [], none⟩,
    ⟨some 10, .mov none (.t 16), [], none⟩])
  (.seq (.seq (.region false [⟨some 17, .mov none (.t 10), [], none⟩,
    ⟨some 18, .bin .sub (.t 17) (.k (.one (.iv (.int .i64 1)))), [], none⟩,
    ⟨some 19, .bin .quo (.t 18) (.k (.one (.iv (.int .i64 2)))), [], none⟩,
    ⟨some 11, .mov none (.t 19), [], none⟩])
  (.block 0 (.loop false [0, 3, 8, 9, 10, 11] l140_0)))
  (.seq (.region false [⟨some 30, .mov none (.t 10), [], none⟩,
    ⟨some 31, .bin .sub (.t 30) (.k (.one (.iv (.int .i64 1)))), [], none⟩,
    ⟨some 12, .mov none (.t 31), [], none⟩])
  (.block 2 (.loop false [0, 3, 8, 9, 12] l140_1))))))
def v140 : VFn := ⟨4, 60, [], b140⟩

theorem c140 : chkFn Try.prog 140 v140 = true := by kernel_rfl

/- slices.breakPatternsCmpFunc[scholia/api.Dot] -/
def l141_0 : VCode := .seq (.seq (.region false [⟨some 28, .mov none (.t 11), [], none⟩,
    ⟨some 29, .mov none (.t 1), [], none⟩,
    ⟨some 30, .mov none (.t 8), [], none⟩,
    ⟨some 31, .bin .quo (.t 30) (.k (.one (.iv (.int .i64 4)))), [], none⟩,
    ⟨some 32, .bin .mul (.t 31) (.k (.one (.iv (.int .i64 2)))), [], none⟩,
    ⟨some 33, .bin .add (.t 29) (.t 32), [], none⟩,
    ⟨some 34, .bin .add (.t 33) (.k (.one (.iv (.int .i64 1)))), [], none⟩,
    ⟨some 35, .bin .leq (.t 28) (.t 34), [], none⟩])
  (.cond (.t 35) (.skip) (.exit 0)))
  (.seq (.block 1 (.seq (.region false [⟨some 38, .call 155 [(false, .t 9)], [], none⟩,
    ⟨some 39, .mov none (.t 10), [], none⟩,
    ⟨some 40, .bin .sub (.t 39) (.k (.one (.iv (.int .u64 1)))), [], none⟩,
    ⟨some 41, .bin .and (.t 38) (.t 40), [], none⟩,
    ⟨some 42, .conv .i64 (.t 41), [], none⟩,
    ⟨some 12, .mov none (.t 42), [], none⟩])
  (.seq (.seq (.region false [⟨some 43, .mov none (.t 12), [], none⟩,
    ⟨some 44, .mov none (.t 8), [], none⟩,
    ⟨some 45, .bin .geq (.t 43) (.t 44), [], none⟩])
  (.cond (.t 45) (.region false [⟨some 46, .mov none (.t 12), [], none⟩,
    ⟨some 47, .mov none (.t 8), [], none⟩,
    ⟨some 48, .bin .sub (.t 46) (.t 47), [], none⟩,
    ⟨some 12, .mov none (.t 48), [], none⟩]) (.skip)))
  (.region true [⟨some 49, .mov none (.t 0), [], none⟩,
    ⟨some 50, .mov none (.t 11), [], none⟩,
    ⟨some 51, .mov none (.t 0), [], none⟩,
    ⟨some 52, .mov none (.t 1), [], none⟩,
    ⟨some 53, .mov none (.t 12), [], none⟩,
    ⟨some 54, .bin .add (.t 52) (.t 53), [4, 3], none⟩,
    ⟨some 55, .mov none (.t 0), [], none⟩,
    ⟨some 56, .mov none (.t 1), [], none⟩,
    ⟨some 57, .mov none (.t 12), [], none⟩,
    ⟨some 58, .bin .add (.t 56) (.t 57), [8, 7], none⟩,
    ⟨some 59, .ixS 2 (.t 55) (.t 58), [9, 6], none⟩,
    ⟨some 60, .load true 2 (.t 59), [10], none⟩,
    ⟨some 61, .mov none (.t 0), [], none⟩,
    ⟨some 62, .mov none (.t 11), [], none⟩,
    ⟨some 63, .ixS 2 (.t 61) (.t 62), [13, 12], none⟩,
    ⟨some 64, .load true 2 (.t 63), [14], none⟩,
    ⟨some 65, .ixS 2 (.t 49) (.t 50), [15, 11, 1, 0], none⟩,
    ⟨none, .store 2 (.t 65) (.t 60), [16], none⟩,
    ⟨some 66, .ixS 2 (.t 51) (.t 54), [17, 5, 2], none⟩,
    ⟨none, .store 2 (.t 66) (.t 64), [18], none⟩]))))
  (.region false [⟨some 36, .mov none (.t 11), [], none⟩,
    ⟨some 37, .bin .add (.t 36) (.k (.one (.iv (.int .i64 1)))), [], none⟩,
    ⟨some 11, .mov none (.t 37), [], none⟩]))
def b141 : VCode := .seq (.region false [⟨some 13, .mov none (.t 2), [], none⟩,
    ⟨some 14, .mov none (.t 1), [], none⟩,
    ⟨some 15, .bin .sub (.t 13) (.t 14), [], none⟩,
    ⟨some 8, .mov none (.t 15), [], none⟩])
  (.seq (.region false [⟨some 16, .mov none (.t 8), [], none⟩,
    ⟨some 17, .bin .geq (.t 16) (.k (.one (.iv (.int .i64 8)))), [], none⟩])
  (.cond (.t 17) (.seq (.region false [⟨some 18, .mov none (.t 8), [], none⟩,
    ⟨some 19, .conv .u64 (.t 18), [], none⟩,
    ⟨some 9, .new [.iv (.int .u64 0)], [], none⟩,
    ⟨none, .store 1 (.t 9) (.t 19), [], none⟩])
  (.seq (.region false [⟨some 20, .mov none (.t 8), [], none⟩,
    ⟨some 21, .call 154 [(false, .t 20)], [], none⟩,
    ⟨some 10, .mov none (.t 21), [], none⟩])
  (.seq (.region false [⟨some 22, .mov none (.t 1), [], none⟩,
    ⟨some 23, .mov none (.t 8), [], none⟩,
    ⟨some 24, .bin .quo (.t 23) (.k (.one (.iv (.int .i64 4)))), [], none⟩,
    ⟨some 25, .bin .mul (.t 24) (.k (.one (.iv (.int .i64 2)))), [], none⟩,
    ⟨some 26, .bin .add (.t 22) (.t 25), [], none⟩,
    ⟨some 27, .bin .sub (.t 26) (.k (.one (.iv (.int .i64 1)))), [], none⟩,
    ⟨some 11, .mov none (.t 27), [], none⟩])
  (.block 0 (.loop false [0, 1, 8, 9, 10, 11] l141_0))))) (.skip)))
def v141 : VFn := ⟨4, 67, [], b141⟩

theorem c141 : chkFn Try.prog 141 v141 = true := by kernel_rfl

/- slices.choosePivotCmpFunc[scholia/api.Dot] -/
def b142 : VCode := .seq (.region false [⟨some 8, .mov none (.k (.one (.iv (.int .i64 0)))), [], none⟩,
    ⟨some 9, .mov none (.k (.one (.iv (.int .i64 0)))), [], none⟩])
  (.seq (.region false [⟨some 15, .mov none (.t 2), [], none⟩,
    ⟨some 16, .mov none (.t 1), [], none⟩,
    ⟨some 17, .bin .sub (.t 15) (.t 16), [], none⟩,
    ⟨some 10, .mov none (.t 17), [], none⟩])
  (.seq (.region false [⟨some 11, .new [.iv (.int .i64 0)], [], none⟩])
  (.seq (.region false [⟨some 18, .mov none (.t 1), [], none⟩,
    ⟨some 19, .mov none (.t 10), [], none⟩,
    ⟨some 20, .bin .quo (.t 19) (.k (.one (.iv (.int .i64 4)))), [], none⟩,
    ⟨some 21, .bin .mul (.t 20) (.k (.one (.iv (.int .i64 1)))), [], none⟩,
    ⟨some 22, .bin .add (.t 18) (.t 21), [], none⟩,
    ⟨some 12, .mov none (.t 22), [], none⟩])
  (.seq (.region false [⟨some 23, .mov none (.t 1), [], none⟩,
    ⟨some 24, .mov none (.t 10), [], none⟩,
    ⟨some 25, .bin .quo (.t 24) (.k (.one (.iv (.int .i64 4)))), [], none⟩,
    ⟨some 26, .bin .mul (.t 25) (.k (.one (.iv (.int .i64 2)))), [], none⟩,
    ⟨some 27, .bin .add (.t 23) (.t 26), [], none⟩,
    ⟨some 13, .mov none (.t 27), [], none⟩])
  (.seq (.region false [⟨some 28, .mov none (.t 1), [], none⟩,
    ⟨some 29, .mov none (.t 10), [], none⟩,
    ⟨some 30, .bin .quo (.t 29) (.k (.one (.iv (.int .i64 4)))), [], none⟩,
    ⟨some 31, .bin .mul (.t 30) (.k (.one (.iv (.int .i64 3)))), [], none⟩,
    ⟨some 32, .bin .add (.t 28) (.t 31), [], none⟩,
    ⟨some 14, .mov none (.t 32), [], none⟩])
  (.seq (.seq (.region false [⟨some 33, .mov none (.t 10), [], none⟩,
    ⟨some 34, .bin .geq (.t 33) (.k (.one (.iv (.int .i64 8)))), [], none⟩])
  (.cond (.t 34) (.seq (.seq (.region false [⟨some 35, .mov none (.t 10), [], none⟩,
    ⟨some 36, .bin .geq (.t 35) (.k (.one (.iv (.int .i64 50)))), [], none⟩])
  (.cond (.t 36) (.seq (.region false [⟨some 37, .mov none (.t 0), [], none⟩,
    ⟨some 38, .mov none (.t 12), [], none⟩,
    ⟨some 39, .mov none (.t 3), [], none⟩,
    ⟨some 40, .call 156 [(true, .t 37), (false, .t 38), (false, .t 11), (false, .t 39)], [], none⟩,
    ⟨some 12, .mov none (.t 40), [], none⟩])
  (.seq (.region false [⟨some 41, .mov none (.t 0), [], none⟩,
    ⟨some 42, .mov none (.t 13), [], none⟩,
    ⟨some 43, .mov none (.t 3), [], none⟩,
    ⟨some 44, .call 156 [(true, .t 41), (false, .t 42), (false, .t 11), (false, .t 43)], [], none⟩,
    ⟨some 13, .mov none (.t 44), [], none⟩])
  (.region false [⟨some 45, .mov none (.t 0), [], none⟩,
    ⟨some 46, .mov none (.t 14), [], none⟩,
    ⟨some 47, .mov none (.t 3), [], none⟩,
    ⟨some 48, .call 156 [(true, .t 45), (false, .t 46), (false, .t 11), (false, .t 47)], [], none⟩,
    ⟨some 14, .mov none (.t 48), [], none⟩]))) (.skip)))
  (.region false [⟨some 49, .mov none (.t 0), [], none⟩,
    ⟨some 50, .mov none (.t 12), [], none⟩,
    ⟨some 51, .mov none (.t 13), [], none⟩,
    ⟨some 52, .mov none (.t 14), [], none⟩,
    ⟨some 53, .mov none (.t 3), [], none⟩,
    ⟨some 54, .call 157 [(true, .t 49), (false, .t 50), (false, .t 51), (false, .t 52), (false, .t 11), (false, .t 53)], [], none⟩,
    ⟨some 13, .mov none (.t 54), [], none⟩])) (.skip)))
  (.seq (.region false [⟨some 55, .load false 1 (.t 11), [], none⟩])
  (.block 0 (.seq (.region false [⟨some 58, .bin .eql (.t 55) (.k (.one (.iv (.int .i64 0)))), [], none⟩,
    ⟨some 57, .mov none (.t 58), [], none⟩])
  (.cond (.t 57) (.seq (.region false [⟨some 59, .mov none (.t 13), [], none⟩,
    ⟨some 8, .mov none (.t 59), [], none⟩,
    ⟨some 9, .mov none (.k (.one (.iv (.int .i64 1)))), [], none⟩])
  (.ret)) (.seq (.region false [⟨some 61, .bin .eql (.t 55) (.k (.one (.iv (.int .i64 12)))), [], none⟩,
    ⟨some 60, .mov none (.t 61), [], none⟩])
  (.cond (.t 60) (.seq (.region false [⟨some 62, .mov none (.t 13), [], none⟩,
    ⟨some 8, .mov none (.t 62), [], none⟩,
    ⟨some 9, .mov none (.k (.one (.iv (.int .i64 2)))), [], none⟩])
  (.ret)) (.seq (.region false [⟨some 56, .mov none (.t 13), [], none⟩,
    ⟨some 8, .mov none (.t 56), [], none⟩,
    ⟨some 9, .mov none (.k (.one (.iv (.int .i64 0)))), [], none⟩])
  (.ret))))))))))))))
def v142 : VFn := ⟨4, 63, [.t 8, .t 9], b142⟩

theorem c142 : chkFn Try.prog 142 v142 = true := by kernel_rfl

/- slices.reverseRangeCmpFunc[scholia/api.Dot] -/
def l143_0 : VCode := .seq (.seq (.region false [⟨some 13, .mov none (.t 8), [], none⟩,
    ⟨some 14, .mov none (.t 9), [], none⟩,
    ⟨some 15, .bin .lss (.t 13) (.t 14), [], none⟩])
  (.cond (.t 15) (.skip) (.exit 0)))
  (.block 1 (.seq (.region true [⟨some 16, .mov none (.t 0), [], none⟩,
    ⟨some 17, .mov none (.t 8), [], none⟩,
    ⟨some 18, .mov none (.t 0), [], none⟩,
    ⟨some 19, .mov none (.t 9), [], none⟩,
    ⟨some 20, .mov none (.t 0), [], none⟩,
    ⟨some 21, .mov none (.t 9), [], none⟩,
    ⟨some 22, .ixS 2 (.t 20) (.t 21), [5, 4], none⟩,
    ⟨some 23, .load true 2 (.t 22), [6], none⟩,
    ⟨some 24, .mov none (.t 0), [], none⟩,
    ⟨some 25, .mov none (.t 8), [], none⟩,
    ⟨some 26, .ixS 2 (.t 24) (.t 25), [9, 8], none⟩,
    ⟨some 27, .load true 2 (.t 26), [10], none⟩,
    ⟨some 28, .ixS 2 (.t 16) (.t 17), [11, 7, 1, 0], none⟩,
    ⟨none, .store 2 (.t 28) (.t 23), [12], none⟩,
    ⟨some 29, .ixS 2 (.t 18) (.t 19), [13, 3, 2], none⟩,
    ⟨none, .store 2 (.t 29) (.t 27), [14], none⟩])
  (.seq (.region false [⟨some 30, .mov none (.t 8), [], none⟩,
    ⟨some 31, .bin .add (.t 30) (.k (.one (.iv (.int .i64 1)))), [], none⟩,
    ⟨some 8, .mov none (.t 31), [], none⟩])
  (.region false [⟨some 32, .mov none (.t 9), [], none⟩,
    ⟨some 33, .bin .sub (.t 32) (.k (.one (.iv (.int .i64 1)))), [], none⟩,
    ⟨some 9, .mov none (.t 33), [], none⟩]))))
def b143 : VCode := .seq (.region false [⟨some 10, .mov none (.t 1), [], none⟩,
    ⟨some 8, .mov none (.t 10), [], none⟩])
  (.seq (.region false [⟨some 11, .mov none (.t 2), [], none⟩,
    ⟨some 12, .bin .sub (.t 11) (.k (.one (.iv (.int .i64 1)))), [], none⟩,
    ⟨some 9, .mov none (.t 12), [], none⟩])
  (.block 0 (.loop false [0, 8, 9] l143_0)))
def v143 : VFn := ⟨4, 34, [], b143⟩

theorem c143 : chkFn Try.prog 143 v143 = true := by kernel_rfl

/- slices.partialInsertionSortCmpFunc[scholia/api.Dot] -/
def l144_1 : VCode := .seq (.seq (.region true [⟨some 19, .mov none (.t 9), [], none⟩,
    ⟨some 20, .mov none (.t 2), [], none⟩,
    ⟨some 21, .bin .lss (.t 19) (.t 20), [1, 0], none⟩,
    ⟨some 22, .mov none (.t 21), [2], none⟩,
    ⟨some 23, .mov none (.t 3), [3], some (22, true)⟩,
    ⟨some 24, .mov none (.t 0), [3], some (22, true)⟩,
    ⟨some 25, .mov none (.t 9), [3], some (22, true)⟩,
    ⟨some 26, .ixS 2 (.t 24) (.t 25), [6, 5], some (22, true)⟩,
    ⟨some 27, .load true 2 (.t 26), [7], some (22, true)⟩,
    ⟨some 28, .mov none (.t 0), [3], some (22, true)⟩,
    ⟨some 29, .mov none (.t 9), [3], some (22, true)⟩,
    ⟨some 30, .bin .sub (.t 29) (.k (.one (.iv (.int .i64 1)))), [10], some (22, true)⟩,
    ⟨some 31, .ixS 2 (.t 28) (.t 30), [11, 9], some (22, true)⟩,
    ⟨some 32, .load true 2 (.t 31), [12], some (22, true)⟩,
    ⟨some 33, .callv (.t 23) [(false, .t 27), (false, .t 32)], [13, 8, 4], some (22, true)⟩,
    ⟨some 34, .bin .lss (.t 33) (.k (.one (.iv (.int .i64 0)))), [14], some (22, true)⟩,
    ⟨some 35, .un .not (.t 34), [15], some (22, true)⟩,
    ⟨some 36, .pick (.t 22) (.t 35) (.k (.one (.iv (.bool false)))), [16], none⟩])
  (.cond (.t 36) (.skip) (.exit 2)))
  (.block 3 (.region false [⟨some 37, .mov none (.t 9), [], none⟩,
    ⟨some 38, .bin .add (.t 37) (.k (.one (.iv (.int .i64 1)))), [], none⟩,
    ⟨some 9, .mov none (.t 38), [], none⟩]))
def l144_2 : VCode := .seq (.seq (.region false [⟨some 68, .mov none (.t 11), [], none⟩,
    ⟨some 69, .bin .geq (.t 68) (.k (.one (.iv (.int .i64 1)))), [], none⟩])
  (.cond (.t 69) (.skip) (.exit 4)))
  (.seq (.block 5 (.seq (.seq (.region true [⟨some 72, .mov none (.t 3), [], none⟩,
    ⟨some 73, .mov none (.t 0), [], none⟩,
    ⟨some 74, .mov none (.t 11), [], none⟩,
    ⟨some 75, .ixS 2 (.t 73) (.t 74), [2, 1], none⟩,
    ⟨some 76, .load true 2 (.t 75), [3], none⟩,
    ⟨some 77, .mov none (.t 0), [], none⟩,
    ⟨some 78, .mov none (.t 11), [], none⟩,
    ⟨some 79, .bin .sub (.t 78) (.k (.one (.iv (.int .i64 1)))), [6], none⟩,
    ⟨some 80, .ixS 2 (.t 77) (.t 79), [7, 5], none⟩,
    ⟨some 81, .load true 2 (.t 80), [8], none⟩,
    ⟨some 82, .callv (.t 72) [(false, .t 76), (false, .t 81)], [9, 4, 0], none⟩,
    ⟨some 83, .bin .lss (.t 82) (.k (.one (.iv (.int .i64 0)))), [10], none⟩,
    ⟨some 84, .un .not (.t 83), [11], none⟩])
  (.cond (.t 84) (.exit 4) (.skip)))
  (.region true [⟨some 85, .mov none (.t 0), [], none⟩,
    ⟨some 86, .mov none (.t 11), [], none⟩,
    ⟨some 87, .mov none (.t 0), [], none⟩,
    ⟨some 88, .mov none (.t 11), [], none⟩,
    ⟨some 89, .bin .sub (.t 88) (.k (.one (.iv (.int .i64 1)))), [3], none⟩,
    ⟨some 90, .mov none (.t 0), [], none⟩,
    ⟨some 91, .mov none (.t 11), [], none⟩,
    ⟨some 92, .bin .sub (.t 91) (.k (.one (.iv (.int .i64 1)))), [6], none⟩,
    ⟨some 93, .ixS 2 (.t 90) (.t 92), [7, 5], none⟩,
    ⟨some 94, .load true 2 (.t 93), [8], none⟩,
    ⟨some 95, .mov none (.t 0), [], none⟩,
    ⟨some 96, .mov none (.t 11), [], none⟩,
    ⟨some 97, .ixS 2 (.t 95) (.t 96), [11, 10], none⟩,
    ⟨some 98, .load true 2 (.t 97), [12], none⟩,
    ⟨some 99, .ixS 2 (.t 85) (.t 86), [13, 9, 1, 0], none⟩,
    ⟨none, .store 2 (.t 99) (.t 94), [14], none⟩,
    ⟨some 100, .ixS 2 (.t 87) (.t 89), [15, 4, 2], none⟩,
    ⟨none, .store 2 (.t 100) (.t 98), [16], none⟩])))
  (.region false [⟨some 70, .mov none (.t 11), [], none⟩,
    ⟨some 71, .bin .sub (.t 70) (.k (.one (.iv (.int .i64 1)))), [], none⟩,
    ⟨some 11, .mov none (.t 71), [], none⟩]))
def l144_3 : VCode := .seq (.seq (.region false [⟨some 107, .mov none (.t 12), [], none⟩,
    ⟨some 108, .mov none (.t 2), [], none⟩,
    ⟨some 109, .bin .lss (.t 107) (.t 108), [], none⟩])
  (.cond (.t 109) (.skip) (.exit 6)))
  (.seq (.block 7 (.seq (.seq (.region true [⟨some 112, .mov none (.t 3), [], none⟩,
    ⟨some 113, .mov none (.t 0), [], none⟩,
    ⟨some 114, .mov none (.t 12), [], none⟩,
    ⟨some 115, .ixS 2 (.t 113) (.t 114), [2, 1], none⟩,
    ⟨some 116, .load true 2 (.t 115), [3], none⟩,
    ⟨some 117, .mov none (.t 0), [], none⟩,
    ⟨some 118, .mov none (.t 12), [], none⟩,
    ⟨some 119, .bin .sub (.t 118) (.k (.one (.iv (.int .i64 1)))), [6], none⟩,
    ⟨some 120, .ixS 2 (.t 117) (.t 119), [7, 5], none⟩,
    ⟨some 121, .load true 2 (.t 120), [8], none⟩,
    ⟨some 122, .callv (.t 112) [(false, .t 116), (false, .t 121)], [9, 4, 0], none⟩,
    ⟨some 123, .bin .lss (.t 122) (.k (.one (.iv (.int .i64 0)))), [10], none⟩,
    ⟨some 124, .un .not (.t 123), [11], none⟩])
  (.cond (.t 124) (.exit 6) (.skip)))
  (.region true [⟨some 125, .mov none (.t 0), [], none⟩,
    ⟨some 126, .mov none (.t 12), [], none⟩,
    ⟨some 127, .mov none (.t 0), [], none⟩,
    ⟨some 128, .mov none (.t 12), [], none⟩,
    ⟨some 129, .bin .sub (.t 128) (.k (.one (.iv (.int .i64 1)))), [3], none⟩,
    ⟨some 130, .mov none (.t 0), [], none⟩,
    ⟨some 131, .mov none (.t 12), [], none⟩,
    ⟨some 132, .bin .sub (.t 131) (.k (.one (.iv (.int .i64 1)))), [6], none⟩,
    ⟨some 133, .ixS 2 (.t 130) (.t 132), [7, 5], none⟩,
    ⟨some 134, .load true 2 (.t 133), [8], none⟩,
    ⟨some 135, .mov none (.t 0), [], none⟩,
    ⟨some 136, .mov none (.t 12), [], none⟩,
    ⟨some 137, .ixS 2 (.t 135) (.t 136), [11, 10], none⟩,
    ⟨some 138, .load true 2 (.t 137), [12], none⟩,
    ⟨some 139, .ixS 2 (.t 125) (.t 126), [13, 9, 1, 0], none⟩,
    ⟨none, .store 2 (.t 139) (.t 134), [14], none⟩,
    ⟨some 140, .ixS 2 (.t 127) (.t 129), [15, 4, 2], none⟩,
    ⟨none, .store 2 (.t 140) (.t 138), [16], none⟩])))
  (.region false [⟨some 110, .mov none (.t 12), [], none⟩,
    ⟨some 111, .bin .add (.t 110) (.k (.one (.iv (.int .i64 1)))), [], none⟩,
    ⟨some 12, .mov none (.t 111), [], none⟩]))
def l144_0 : VCode := .seq (.seq (.region false [⟨some 15, .mov none (.t 10), [], none⟩,
    ⟨some 16, .bin .lss (.t 15) (.k (.one (.iv (.int .i64 5)))), [], none⟩])
  (.cond (.t 16) (.skip) (.exit 0)))
  (.seq (.block 1 (.seq (.block 2 (.loop false [0, 1, 2, 3, 9, 10] l144_1))
  (.seq (.seq (.region false [⟨some 39, .mov none (.t 9), [], none⟩,
    ⟨some 40, .mov none (.t 2), [], none⟩,
    ⟨some 41, .bin .eql (.t 39) (.t 40), [], none⟩])
  (.cond (.t 41) (.seq (.region false [⟨some 8, .mov none (.k (.one (.iv (.bool true)))), [], none⟩])
  (.ret)) (.skip)))
  (.seq (.seq (.region false [⟨some 42, .mov none (.t 2), [], none⟩,
    ⟨some 43, .mov none (.t 1), [], none⟩,
    ⟨some 44, .bin .sub (.t 42) (.t 43), [], none⟩,
    ⟨some 45, .bin .lss (.t 44) (.k (.one (.iv (.int .i64 50)))), [], none⟩])
  (.cond (.t 45) (.seq (.region false [⟨some 8, .mov none (.k (.one (.iv (.bool false)))), [], none⟩])
  (.ret)) (.skip)))
  (.seq (.region true [⟨some 46, .mov none (.t 0), [], none⟩,
    ⟨some 47, .mov none (.t 9), [], none⟩,
    ⟨some 48, .mov none (.t 0), [], none⟩,
    ⟨some 49, .mov none (.t 9), [], none⟩,
    ⟨some 50, .bin .sub (.t 49) (.k (.one (.iv (.int .i64 1)))), [3], none⟩,
    ⟨some 51, .mov none (.t 0), [], none⟩,
    ⟨some 52, .mov none (.t 9), [], none⟩,
    ⟨some 53, .bin .sub (.t 52) (.k (.one (.iv (.int .i64 1)))), [6], none⟩,
    ⟨some 54, .ixS 2 (.t 51) (.t 53), [7, 5], none⟩,
    ⟨some 55, .load true 2 (.t 54), [8], none⟩,
    ⟨some 56, .mov none (.t 0), [], none⟩,
    ⟨some 57, .mov none (.t 9), [], none⟩,
    ⟨some 58, .ixS 2 (.t 56) (.t 57), [11, 10], none⟩,
    ⟨some 59, .load true 2 (.t 58), [12], none⟩,
    ⟨some 60, .ixS 2 (.t 46) (.t 47), [13, 9, 1, 0], none⟩,
    ⟨none, .store 2 (.t 60) (.t 55), [14], none⟩,
    ⟨some 61, .ixS 2 (.t 48) (.t 50), [15, 4, 2], none⟩,
    ⟨none, .store 2 (.t 61) (.t 59), [16], none⟩])
  (.seq (.seq (.region false [⟨some 62, .mov none (.t 9), [], none⟩,
    ⟨some 63, .mov none (.t 1), [], none⟩,
    ⟨some 64, .bin .sub (.t 62) (.t 63), [], none⟩,
    ⟨some 65, .bin .geq (.t 64) (.k (.one (.iv (.int .i64 2)))), [], none⟩])
  (.cond (.t 65) (.seq (.region false [⟨some 66, .mov none (.t 9), [], none⟩,
    ⟨some 67, .bin .sub (.t 66) (.k (.one (.iv (.int .i64 1)))), [], none⟩,
    ⟨some 11, .mov none (.t 67), [], none⟩])
  (.block 4 (.loop false [0, 1, 2, 3, 9, 10, 11] l144_2))) (.skip)))
  (.seq (.region false [⟨some 101, .mov none (.t 2), [], none⟩,
    ⟨some 102, .mov none (.t 9), [], none⟩,
    ⟨some 103, .bin .sub (.t 101) (.t 102), [], none⟩,
    ⟨some 104, .bin .geq (.t 103) (.k (.one (.iv (.int .i64 2)))), [], none⟩])
  (.cond (.t 104) (.seq (.region false [⟨some 105, .mov none (.t 9), [], none⟩,
    ⟨some 106, .bin .add (.t 105) (.k (.one (.iv (.int .i64 1)))), [], none⟩,
    ⟨some 12, .mov none (.t 106), [], none⟩])
  (.block 6 (.loop false [0, 1, 2, 3, 9, 10, 12] l144_3))) (.skip)))))))))
  (.region false [⟨some 17, .mov none (.t 10), [], none⟩,
    ⟨some 18, .bin .add (.t 17) (.k (.one (.iv (.int .i64 1)))), [], none⟩,
    ⟨some 10, .mov none (.t 18), [], none⟩]))
def b144 : VCode := .seq (.region false [⟨some 8, .mov none (.k (.one (.iv (.bool false)))), [], none⟩])
  (.seq (.region false [⟨some 13, .mov none (.t 1), [], none⟩,
    ⟨some 14, .bin .add (.t 13) (.k (.one (.iv (.int .i64 1)))), [], none⟩,
    ⟨some 9, .mov none (.t 14), [], none⟩])
  (.seq (.seq (.region false [⟨some 10, .mov none (.k (.one (.iv (.int .i64 0)))), [], none⟩])
  (.block 0 (.loop false [0, 1, 2, 3, 9, 10] l144_0)))
  (.seq (.region false [⟨some 8, .mov none (.k (.one (.iv (.bool false)))), [], none⟩])
  (.ret))))
def v144 : VFn := ⟨4, 141, [.t 8], b144⟩

theorem c144 : chkFn Try.prog 144 v144 = true := by kernel_rfl

/- slices.partitionEqualCmpFunc[scholia/api.Dot] -/
def l145_1 : VCode := .seq (.seq (.region true [⟨some 31, .mov none (.t 11), [], none⟩,
    ⟨some 32, .mov none (.t 12), [], none⟩,
    ⟨some 33, .bin .leq (.t 31) (.t 32), [1, 0], none⟩,
    ⟨some 34, .mov none (.t 33), [2], none⟩,
    ⟨some 35, .mov none (.t 4), [3], some (34, true)⟩,
    ⟨some 36, .mov none (.t 0), [3], some (34, true)⟩,
    ⟨some 37, .mov none (.t 1), [3], some (34, true)⟩,
    ⟨some 38, .ixS 2 (.t 36) (.t 37), [6, 5], some (34, true)⟩,
    ⟨some 39, .load true 2 (.t 38), [7], some (34, true)⟩,
    ⟨some 40, .mov none (.t 0), [3], some (34, true)⟩,
    ⟨some 41, .mov none (.t 11), [3], some (34, true)⟩,
    ⟨some 42, .ixS 2 (.t 40) (.t 41), [10, 9], some (34, true)⟩,
    ⟨some 43, .load true 2 (.t 42), [11], some (34, true)⟩,
    ⟨some 44, .callv (.t 35) [(false, .t 39), (false, .t 43)], [12, 8, 4], some (34, true)⟩,
    ⟨some 45, .bin .lss (.t 44) (.k (.one (.iv (.int .i64 0)))), [13], some (34, true)⟩,
    ⟨some 46, .un .not (.t 45), [14], some (34, true)⟩,
    ⟨some 47, .pick (.t 34) (.t 46) (.k (.one (.iv (.bool false)))), [15], none⟩])
  (.cond (.t 47) (.skip) (.exit 2)))
  (.block 3 (.region false [⟨some 48, .mov none (.t 11), [], none⟩,
    ⟨some 49, .bin .add (.t 48) (.k (.one (.iv (.int .i64 1)))), [], none⟩,
    ⟨some 11, .mov none (.t 49), [], none⟩]))
def l145_2 : VCode := .seq (.seq (.region true [⟨some 50, .mov none (.t 11), [], none⟩,
    ⟨some 51, .mov none (.t 12), [], none⟩,
    ⟨some 52, .bin .leq (.t 50) (.t 51), [1, 0], none⟩,
    ⟨some 53, .mov none (.t 52), [2], none⟩,
    ⟨some 54, .mov none (.t 4), [3], some (53, true)⟩,
    ⟨some 55, .mov none (.t 0), [3], some (53, true)⟩,
    ⟨some 56, .mov none (.t 1), [3], some (53, true)⟩,
    ⟨some 57, .ixS 2 (.t 55) (.t 56), [6, 5], some (53, true)⟩,
    ⟨some 58, .load true 2 (.t 57), [7], some (53, true)⟩,
    ⟨some 59, .mov none (.t 0), [3], some (53, true)⟩,
    ⟨some 60, .mov none (.t 12), [3], some (53, true)⟩,
    ⟨some 61, .ixS 2 (.t 59) (.t 60), [10, 9], some (53, true)⟩,
    ⟨some 62, .load true 2 (.t 61), [11], some (53, true)⟩,
    ⟨some 63, .callv (.t 54) [(false, .t 58), (false, .t 62)], [12, 8, 4], some (53, true)⟩,
    ⟨some 64, .bin .lss (.t 63) (.k (.one (.iv (.int .i64 0)))), [13], some (53, true)⟩,
    ⟨some 65, .pick (.t 53) (.t 64) (.k (.one (.iv (.bool false)))), [14], none⟩])
  (.cond (.t 65) (.skip) (.exit 4)))
  (.block 5 (.region false [⟨some 66, .mov none (.t 12), [], none⟩,
    ⟨some 67, .bin .sub (.t 66) (.k (.one (.iv (.int .i64 1)))), [], none⟩,
    ⟨some 12, .mov none (.t 67), [], none⟩]))
def l145_0 : VCode := .block 1 (.seq (.block 2 (.loop false [0, 1, 4, 11, 12] l145_1))
  (.seq (.block 4 (.loop false [0, 1, 4, 11, 12] l145_2))
  (.seq (.seq (.region false [⟨some 68, .mov none (.t 11), [], none⟩,
    ⟨some 69, .mov none (.t 12), [], none⟩,
    ⟨some 70, .bin .gtr (.t 68) (.t 69), [], none⟩])
  (.cond (.t 70) (.exit 0) (.skip)))
  (.seq (.region true [⟨some 71, .mov none (.t 0), [], none⟩,
    ⟨some 72, .mov none (.t 11), [], none⟩,
    ⟨some 73, .mov none (.t 0), [], none⟩,
    ⟨some 74, .mov none (.t 12), [], none⟩,
    ⟨some 75, .mov none (.t 0), [], none⟩,
    ⟨some 76, .mov none (.t 12), [], none⟩,
    ⟨some 77, .ixS 2 (.t 75) (.t 76), [5, 4], none⟩,
    ⟨some 78, .load true 2 (.t 77), [6], none⟩,
    ⟨some 79, .mov none (.t 0), [], none⟩,
    ⟨some 80, .mov none (.t 11), [], none⟩,
    ⟨some 81, .ixS 2 (.t 79) (.t 80), [9, 8], none⟩,
    ⟨some 82, .load true 2 (.t 81), [10], none⟩,
    ⟨some 83, .ixS 2 (.t 71) (.t 72), [11, 7, 1, 0], none⟩,
    ⟨none, .store 2 (.t 83) (.t 78), [12], none⟩,
    ⟨some 84, .ixS 2 (.t 73) (.t 74), [13, 3, 2], none⟩,
    ⟨none, .store 2 (.t 84) (.t 82), [14], none⟩])
  (.seq (.region false [⟨some 85, .mov none (.t 11), [], none⟩,
    ⟨some 86, .bin .add (.t 85) (.k (.one (.iv (.int .i64 1)))), [], none⟩,
    ⟨some 11, .mov none (.t 86), [], none⟩])
  (.region false [⟨some 87, .mov none (.t 12), [], none⟩,
    ⟨some 88, .bin .sub (.t 87) (.k (.one (.iv (.int .i64 1)))), [], none⟩,
    ⟨some 12, .mov none (.t 88), [], none⟩]))))))
def b145 : VCode := .seq (.region false [⟨some 10, .mov none (.k (.one (.iv (.int .i64 0)))), [], none⟩])
  (.seq (.region true [⟨some 13, .mov none (.t 0), [], none⟩,
    ⟨some 14, .mov none (.t 1), [], none⟩,
    ⟨some 15, .mov none (.t 0), [], none⟩,
    ⟨some 16, .mov none (.t 3), [], none⟩,
    ⟨some 17, .mov none (.t 0), [], none⟩,
    ⟨some 18, .mov none (.t 3), [], none⟩,
    ⟨some 19, .ixS 2 (.t 17) (.t 18), [5, 4], none⟩,
    ⟨some 20, .load true 2 (.t 19), [6], none⟩,
    ⟨some 21, .mov none (.t 0), [], none⟩,
    ⟨some 22, .mov none (.t 1), [], none⟩,
    ⟨some 23, .ixS 2 (.t 21) (.t 22), [9, 8], none⟩,
    ⟨some 24, .load true 2 (.t 23), [10], none⟩,
    ⟨some 25, .ixS 2 (.t 13) (.t 14), [11, 7, 1, 0], none⟩,
    ⟨none, .store 2 (.t 25) (.t 20), [12], none⟩,
    ⟨some 26, .ixS 2 (.t 15) (.t 16), [13, 3, 2], none⟩,
    ⟨none, .store 2 (.t 26) (.t 24), [14], none⟩])
  (.seq (.region false [⟨some 27, .mov none (.t 1), [], none⟩,
    ⟨some 28, .bin .add (.t 27) (.k (.one (.iv (.int .i64 1)))), [], none⟩,
    ⟨some 29, .mov none (.t 2), [], none⟩,
    ⟨some 30, .bin .sub (.t 29) (.k (.one (.iv (.int .i64 1)))), [], none⟩,
    ⟨some 11, .mov none (.t 28), [], none⟩,
    ⟨some 12, .mov none (.t 30), [], none⟩])
  (.seq (.block 0 (.loop false [0, 1, 4, 11, 12] l145_0))
  (.seq (.region false [⟨some 89, .mov none (.t 11), [], none⟩,
    ⟨some 10, .mov none (.t 89), [], none⟩])
  (.ret)))))
def v145 : VFn := ⟨5, 90, [.t 10], b145⟩

theorem c145 : chkFn Try.prog 145 v145 = true := by kernel_rfl

/- slices.partitionCmpFunc[scholia/api.Dot] -/
def l146_0 : VCode := .seq (.seq (.region true [⟨some 32, .mov none (.t 12), [], none⟩,
    ⟨some 33, .mov none (.t 13), [], none⟩,
    ⟨some 34, .bin .leq (.t 32) (.t 33), [1, 0], none⟩,
    ⟨some 35, .mov none (.t 34), [2], none⟩,
    ⟨some 36, .mov none (.t 4), [3], some (35, true)⟩,
    ⟨some 37, .mov none (.t 0), [3], some (35, true)⟩,
    ⟨some 38, .mov none (.t 12), [3], some (35, true)⟩,
    ⟨some 39, .ixS 2 (.t 37) (.t 38), [6, 5], some (35, true)⟩,
    ⟨some 40, .load true 2 (.t 39), [7], some (35, true)⟩,
    ⟨some 41, .mov none (.t 0), [3], some (35, true)⟩,
    ⟨some 42, .mov none (.t 1), [3], some (35, true)⟩,
    ⟨some 43, .ixS 2 (.t 41) (.t 42), [10, 9], some (35, true)⟩,
    ⟨some 44, .load true 2 (.t 43), [11], some (35, true)⟩,
    ⟨some 45, .callv (.t 36) [(false, .t 40), (false, .t 44)], [12, 8, 4], some (35, true)⟩,
    ⟨some 46, .bin .lss (.t 45) (.k (.one (.iv (.int .i64 0)))), [13], some (35, true)⟩,
    ⟨some 47, .pick (.t 35) (.t 46) (.k (.one (.iv (.bool false)))), [14], none⟩])
  (.cond (.t 47) (.skip) (.exit 0)))
  (.block 1 (.region false [⟨some 48, .mov none (.t 12), [], none⟩,
    ⟨some 49, .bin .add (.t 48) (.k (.one (.iv (.int .i64 1)))), [], none⟩,
    ⟨some 12, .mov none (.t 49), [], none⟩]))
def l146_1 : VCode := .seq (.seq (.region true [⟨some 50, .mov none (.t 12), [], none⟩,
    ⟨some 51, .mov none (.t 13), [], none⟩,
    ⟨some 52, .bin .leq (.t 50) (.t 51), [1, 0], none⟩,
    ⟨some 53, .mov none (.t 52), [2], none⟩,
    ⟨some 54, .mov none (.t 4), [3], some (53, true)⟩,
    ⟨some 55, .mov none (.t 0), [3], some (53, true)⟩,
    ⟨some 56, .mov none (.t 13), [3], some (53, true)⟩,
    ⟨some 57, .ixS 2 (.t 55) (.t 56), [6, 5], some (53, true)⟩,
    ⟨some 58, .load true 2 (.t 57), [7], some (53, true)⟩,
    ⟨some 59, .mov none (.t 0), [3], some (53, true)⟩,
    ⟨some 60, .mov none (.t 1), [3], some (53, true)⟩,
    ⟨some 61, .ixS 2 (.t 59) (.t 60), [10, 9], some (53, true)⟩,
    ⟨some 62, .load true 2 (.t 61), [11], some (53, true)⟩,
    ⟨some 63, .callv (.t 54) [(false, .t 58), (false, .t 62)], [12, 8, 4], some (53, true)⟩,
    ⟨some 64, .bin .lss (.t 63) (.k (.one (.iv (.int .i64 0)))), [13], some (53, true)⟩,
    ⟨some 65, .un .not (.t 64), [14], some (53, true)⟩,
    ⟨some 66, .pick (.t 53) (.t 65) (.k (.one (.iv (.bool false)))), [15], none⟩])
  (.cond (.t 66) (.skip) (.exit 2)))
  (.block 3 (.region false [⟨some 67, .mov none (.t 13), [], none⟩,
    ⟨some 68, .bin .sub (.t 67) (.k (.one (.iv (.int .i64 1)))), [], none⟩,
    ⟨some 13, .mov none (.t 68), [], none⟩]))
def l146_3 : VCode := .seq (.seq (.region true [⟨some 105, .mov none (.t 12), [], none⟩,
    ⟨some 106, .mov none (.t 13), [], none⟩,
    ⟨some 107, .bin .leq (.t 105) (.t 106), [1, 0], none⟩,
    ⟨some 108, .mov none (.t 107), [2], none⟩,
    ⟨some 109, .mov none (.t 4), [3], some (108, true)⟩,
    ⟨some 110, .mov none (.t 0), [3], some (108, true)⟩,
    ⟨some 111, .mov none (.t 12), [3], some (108, true)⟩,
    ⟨some 112, .ixS 2 (.t 110) (.t 111), [6, 5], some (108, true)⟩,
    ⟨some 113, .load true 2 (.t 112), [7], some (108, true)⟩,
    ⟨some 114, .mov none (.t 0), [3], some (108, true)⟩,
    ⟨some 115, .mov none (.t 1), [3], some (108, true)⟩,
    ⟨some 116, .ixS 2 (.t 114) (.t 115), [10, 9], some (108, true)⟩,
    ⟨some 117, .load true 2 (.t 116), [11], some (108, true)⟩,
    ⟨some 118, .callv (.t 109) [(false, .t 113), (false, .t 117)], [12, 8, 4], some (108, true)⟩,
    ⟨some 119, .bin .lss (.t 118) (.k (.one (.iv (.int .i64 0)))), [13], some (108, true)⟩,
    ⟨some 120, .pick (.t 108) (.t 119) (.k (.one (.iv (.bool false)))), [14], none⟩])
  (.cond (.t 120) (.skip) (.exit 6)))
  (.block 7 (.region false [⟨some 121, .mov none (.t 12), [], none⟩,
    ⟨some 122, .bin .add (.t 121) (.k (.one (.iv (.int .i64 1)))), [], none⟩,
    ⟨some 12, .mov none (.t 122), [], none⟩]))
def l146_4 : VCode := .seq (.seq (.region true [⟨some 123, .mov none (.t 12), [], none⟩,
    ⟨some 124, .mov none (.t 13), [], none⟩,
    ⟨some 125, .bin .leq (.t 123) (.t 124), [1, 0], none⟩,
    ⟨some 126, .mov none (.t 125), [2], none⟩,
    ⟨some 127, .mov none (.t 4), [3], some (126, true)⟩,
    ⟨some 128, .mov none (.t 0), [3], some (126, true)⟩,
    ⟨some 129, .mov none (.t 13), [3], some (126, true)⟩,
    ⟨some 130, .ixS 2 (.t 128) (.t 129), [6, 5], some (126, true)⟩,
    ⟨some 131, .load true 2 (.t 130), [7], some (126, true)⟩,
    ⟨some 132, .mov none (.t 0), [3], some (126, true)⟩,
    ⟨some 133, .mov none (.t 1), [3], some (126, true)⟩,
    ⟨some 134, .ixS 2 (.t 132) (.t 133), [10, 9], some (126, true)⟩,
    ⟨some 135, .load true 2 (.t 134), [11], some (126, true)⟩,
    ⟨some 136, .callv (.t 127) [(false, .t 131), (false, .t 135)], [12, 8, 4], some (126, true)⟩,
    ⟨some 137, .bin .lss (.t 136) (.k (.one (.iv (.int .i64 0)))), [13], some (126, true)⟩,
    ⟨some 138, .un .not (.t 137), [14], some (126, true)⟩,
    ⟨some 139, .pick (.t 126) (.t 138) (.k (.one (.iv (.bool false)))), [15], none⟩])
  (.cond (.t 139) (.skip) (.exit 8)))
  (.block 9 (.region false [⟨some 140, .mov none (.t 13), [], none⟩,
    ⟨some 141, .bin .sub (.t 140) (.k (.one (.iv (.int .i64 1)))), [], none⟩,
    ⟨some 13, .mov none (.t 141), [], none⟩]))
def l146_2 : VCode := .block 5 (.seq (.block 6 (.loop false [0, 1, 4, 12, 13] l146_3))
  (.seq (.block 8 (.loop false [0, 1, 4, 12, 13] l146_4))
  (.seq (.seq (.region false [⟨some 142, .mov none (.t 12), [], none⟩,
    ⟨some 143, .mov none (.t 13), [], none⟩,
    ⟨some 144, .bin .gtr (.t 142) (.t 143), [], none⟩])
  (.cond (.t 144) (.exit 4) (.skip)))
  (.seq (.region true [⟨some 145, .mov none (.t 0), [], none⟩,
    ⟨some 146, .mov none (.t 12), [], none⟩,
    ⟨some 147, .mov none (.t 0), [], none⟩,
    ⟨some 148, .mov none (.t 13), [], none⟩,
    ⟨some 149, .mov none (.t 0), [], none⟩,
    ⟨some 150, .mov none (.t 13), [], none⟩,
    ⟨some 151, .ixS 2 (.t 149) (.t 150), [5, 4], none⟩,
    ⟨some 152, .load true 2 (.t 151), [6], none⟩,
    ⟨some 153, .mov none (.t 0), [], none⟩,
    ⟨some 154, .mov none (.t 12), [], none⟩,
    ⟨some 155, .ixS 2 (.t 153) (.t 154), [9, 8], none⟩,
    ⟨some 156, .load true 2 (.t 155), [10], none⟩,
    ⟨some 157, .ixS 2 (.t 145) (.t 146), [11, 7, 1, 0], none⟩,
    ⟨none, .store 2 (.t 157) (.t 152), [12], none⟩,
    ⟨some 158, .ixS 2 (.t 147) (.t 148), [13, 3, 2], none⟩,
    ⟨none, .store 2 (.t 158) (.t 156), [14], none⟩])
  (.seq (.region false [⟨some 159, .mov none (.t 12), [], none⟩,
    ⟨some 160, .bin .add (.t 159) (.k (.one (.iv (.int .i64 1)))), [], none⟩,
    ⟨some 12, .mov none (.t 160), [], none⟩])
  (.region false [⟨some 161, .mov none (.t 13), [], none⟩,
    ⟨some 162, .bin .sub (.t 161) (.k (.one (.iv (.int .i64 1)))), [], none⟩,
    ⟨some 13, .mov none (.t 162), [], none⟩]))))))
def b146 : VCode := .seq (.region false [⟨some 10, .mov none (.k (.one (.iv (.int .i64 0)))), [], none⟩,
    ⟨some 11, .mov none (.k (.one (.iv (.bool false)))), [], none⟩])
  (.seq (.region true [⟨some 14, .mov none (.t 0), [], none⟩,
    ⟨some 15, .mov none (.t 1), [], none⟩,
    ⟨some 16, .mov none (.t 0), [], none⟩,
    ⟨some 17, .mov none (.t 3), [], none⟩,
    ⟨some 18, .mov none (.t 0), [], none⟩,
    ⟨some 19, .mov none (.t 3), [], none⟩,
    ⟨some 20, .ixS 2 (.t 18) (.t 19), [5, 4], none⟩,
    ⟨some 21, .load true 2 (.t 20), [6], none⟩,
    ⟨some 22, .mov none (.t 0), [], none⟩,
    ⟨some 23, .mov none (.t 1), [], none⟩,
    ⟨some 24, .ixS 2 (.t 22) (.t 23), [9, 8], none⟩,
    ⟨some 25, .load true 2 (.t 24), [10], none⟩,
    ⟨some 26, .ixS 2 (.t 14) (.t 15), [11, 7, 1, 0], none⟩,
    ⟨none, .store 2 (.t 26) (.t 21), [12], none⟩,
    ⟨some 27, .ixS 2 (.t 16) (.t 17), [13, 3, 2], none⟩,
    ⟨none, .store 2 (.t 27) (.t 25), [14], none⟩])
  (.seq (.region false [⟨some 28, .mov none (.t 1), [], none⟩,
    ⟨some 29, .bin .add (.t 28) (.k (.one (.iv (.int .i64 1)))), [], none⟩,
    ⟨some 30, .mov none (.t 2), [], none⟩,
    ⟨some 31, .bin .sub (.t 30) (.k (.one (.iv (.int .i64 1)))), [], none⟩,
    ⟨some 12, .mov none (.t 29), [], none⟩,
    ⟨some 13, .mov none (.t 31), [], none⟩])
  (.seq (.block 0 (.loop false [0, 1, 4, 12, 13] l146_0))
  (.seq (.block 2 (.loop false [0, 1, 4, 12, 13] l146_1))
  (.seq (.seq (.region false [⟨some 69, .mov none (.t 12), [], none⟩,
    ⟨some 70, .mov none (.t 13), [], none⟩,
    ⟨some 71, .bin .gtr (.t 69) (.t 70), [], none⟩])
  (.cond (.t 71) (.seq (.region true [⟨some 72, .mov none (.t 0), [], none⟩,
    ⟨some 73, .mov none (.t 13), [], none⟩,
    ⟨some 74, .mov none (.t 0), [], none⟩,
    ⟨some 75, .mov none (.t 1), [], none⟩,
    ⟨some 76, .mov none (.t 0), [], none⟩,
    ⟨some 77, .mov none (.t 1), [], none⟩,
    ⟨some 78, .ixS 2 (.t 76) (.t 77), [5, 4], none⟩,
    ⟨some 79, .load true 2 (.t 78), [6], none⟩,
    ⟨some 80, .mov none (.t 0), [], none⟩,
    ⟨some 81, .mov none (.t 13), [], none⟩,
    ⟨some 82, .ixS 2 (.t 80) (.t 81), [9, 8], none⟩,
    ⟨some 83, .load true 2 (.t 82), [10], none⟩,
    ⟨some 84, .ixS 2 (.t 72) (.t 73), [11, 7, 1, 0], none⟩,
    ⟨none, .store 2 (.t 84) (.t 79), [12], none⟩,
    ⟨some 85, .ixS 2 (.t 74) (.t 75), [13, 3, 2], none⟩,
    ⟨none, .store 2 (.t 85) (.t 83), [14], none⟩])
  (.seq (.region false [⟨some 86, .mov none (.t 13), [], none⟩,
    ⟨some 10, .mov none (.t 86), [], none⟩,
    ⟨some 11, .mov none (.k (.one (.iv (.bool true)))), [], none⟩])
  (.ret))) (.skip)))
  (.seq (.region true [⟨some 87, .mov none (.t 0), [], none⟩,
    ⟨some 88, .mov none (.t 12), [], none⟩,
    ⟨some 89, .mov none (.t 0), [], none⟩,
    ⟨some 90, .mov none (.t 13), [], none⟩,
    ⟨some 91, .mov none (.t 0), [], none⟩,
    ⟨some 92, .mov none (.t 13), [], none⟩,
    ⟨some 93, .ixS 2 (.t 91) (.t 92), [5, 4], none⟩,
    ⟨some 94, .load true 2 (.t 93), [6], none⟩,
    ⟨some 95, .mov none (.t 0), [], none⟩,
    ⟨some 96, .mov none (.t 12), [], none⟩,
    ⟨some 97, .ixS 2 (.t 95) (.t 96), [9, 8], none⟩,
    ⟨some 98, .load true 2 (.t 97), [10], none⟩,
    ⟨some 99, .ixS 2 (.t 87) (.t 88), [11, 7, 1, 0], none⟩,
    ⟨none, .store 2 (.t 99) (.t 94), [12], none⟩,
    ⟨some 100, .ixS 2 (.t 89) (.t 90), [13, 3, 2], none⟩,
    ⟨none, .store 2 (.t 100) (.t 98), [14], none⟩])
  (.seq (.region false [⟨some 101, .mov none (.t 12), [], none⟩,
    ⟨some 102, .bin .add (.t 101) (.k (.one (.iv (.int .i64 1)))), [], none⟩,
    ⟨some 12, .mov none (.t 102), [], none⟩])
  (.seq (.region false [⟨some 103, .mov none (.t 13), [], none⟩,
    ⟨some 104, .bin .sub (.t 103) (.k (.one (.iv (.int .i64 1)))), [], none⟩,
    ⟨some 13, .mov none (.t 104), [], none⟩])
  (.seq (.block 4 (.loop false [0, 1, 4, 12, 13] l146_2))
  (.seq (.region true [⟨some 163, .mov none (.t 0), [], none⟩,
    ⟨some 164, .mov none (.t 13), [], none⟩,
    ⟨some 165, .mov none (.t 0), [], none⟩,
    ⟨some 166, .mov none (.t 1), [], none⟩,
    ⟨some 167, .mov none (.t 0), [], none⟩,
    ⟨some 168, .mov none (.t 1), [], none⟩,
    ⟨some 169, .ixS 2 (.t 167) (.t 168), [5, 4], none⟩,
    ⟨some 170, .load true 2 (.t 169), [6], none⟩,
    ⟨some 171, .mov none (.t 0), [], none⟩,
    ⟨some 172, .mov none (.t 13), [], none⟩,
    ⟨some 173, .ixS 2 (.t 171) (.t 172), [9, 8], none⟩,
    ⟨some 174, .load true 2 (.t 173), [10], none⟩,
    ⟨some 175, .ixS 2 (.t 163) (.t 164), [11, 7, 1, 0], none⟩,
    ⟨none, .store 2 (.t 175) (.t 170), [12], none⟩,
    ⟨some 176, .ixS 2 (.t 165) (.t 166), [13, 3, 2], none⟩,
    ⟨none, .store 2 (.t 176) (.t 174), [14], none⟩])
  (.seq (.region false [⟨some 177, .mov none (.t 13), [], none⟩,
    ⟨some 10, .mov none (.t 177), [], none⟩,
    ⟨some 11, .mov none (.k (.one (.iv (.bool false)))), [], none⟩])
  (.ret))))))))))))
def v146 : VFn := ⟨5, 178, [.t 10, .t 11], b146⟩

theorem c146 : chkFn Try.prog 146 v146 = true := by kernel_rfl

end Go.Proofs.Ytomchclmnmhjaaa
