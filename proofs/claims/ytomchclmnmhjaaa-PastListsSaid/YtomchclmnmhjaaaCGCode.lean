/- The code of the functions that a statement reaches, as V-code, checked against the program. Printed by a program. -/
import Derived.Test.YtomchclmnmhjaaaV3
import Derived.Test.YtomchclmnmhjaaaChecked
import Derived.KernelRfl
set_option maxRecDepth 100000
namespace Go.Proofs.Ytomchclmnmhjaaa
open Go GoV

/- scholia/scholialaw13.PastLists -/
def b16 : VCode := .seq (.region false [⟨some 8, .mov none (.k (.one (.iv (.bool false)))), [], none⟩])
  (.seq (.seq (.region false [⟨some 12, .mov none (.t 1), [], none⟩,
    ⟨some 13, .mks false 1 [.t 12], [], none⟩,
    ⟨some 14, .call 53 [(false, .t 13)], [], none⟩,
    ⟨some 15, .un .not (.t 14), [], none⟩,
    ⟨some 16, .mov none (.t 15), [], none⟩,
    ⟨some 17, .mov none (.t 2), [], some (16, false)⟩,
    ⟨some 18, .blt .len [.t 17], [], some (16, false)⟩,
    ⟨some 19, .bin .gtr (.t 18) (.k (.one (.iv (.int .i64 4096)))), [], some (16, false)⟩,
    ⟨some 20, .pick (.t 16) (.k (.one (.iv (.bool true)))) (.t 19), [], none⟩])
  (.cond (.t 20) (.seq (.region false [⟨some 21, .call 54 [], [], none⟩,
    ⟨some 8, .mov none (.t 21), [], none⟩])
  (.ret)) (.skip)))
  (.seq (.region false [⟨some 22, .mov none (.t 0), [], none⟩,
    ⟨some 23, .call 49 [(false, .t 22)], [], none⟩,
    ⟨some 9, .mov none (.t 23), [], none⟩])
  (.seq (.region false [⟨some 24, .mov none (.t 2), [], none⟩,
    ⟨some 25, .call 45 [(false, .t 24)], [], none⟩,
    ⟨some 26, .mov none (.t 2), [], none⟩,
    ⟨some 27, .call 49 [(false, .t 26)], [], none⟩,
    ⟨some 28, .build [.iv (.sl true 0 []), .iv (.int .i64 0)] [(0, 1, .t 27)], [], none⟩,
    ⟨some 29, .box (.t 28), [], none⟩,
    ⟨some 10, .mov none (.t 25), [], none⟩,
    ⟨some 11, .mov none (.t 29), [], none⟩])
  (.seq (.region true [⟨some 30, .mov none (.t 0), [], none⟩,
    ⟨some 31, .mov none (.t 1), [], none⟩,
    ⟨some 32, .call 72 [(false, .t 30), (false, .t 31)], [1, 0], none⟩,
    ⟨some 33, .mov none (.t 9), [], none⟩,
    ⟨some 34, .mov none (.t 1), [], none⟩,
    ⟨some 35, .call 73 [(false, .t 33), (false, .t 34)], [4, 3, 2], none⟩,
    ⟨some 36, .call 50 [(false, .t 32), (false, .t 35)], [5], none⟩,
    ⟨some 37, .mov none (.t 36), [6], none⟩,
    ⟨some 38, .mov none (.t 0), [7], some (37, true)⟩,
    ⟨some 39, .mov none (.t 9), [7], some (37, true)⟩,
    ⟨some 40, .call 50 [(false, .t 38), (false, .t 39)], [9, 8], some (37, true)⟩,
    ⟨some 41, .pick (.t 37) (.t 40) (.k (.one (.iv (.bool false)))), [10], none⟩,
    ⟨some 42, .mov none (.t 41), [11], none⟩,
    ⟨some 43, .mov none (.t 10), [12], some (42, true)⟩,
    ⟨some 44, .mov none (.t 3), [12], some (42, true)⟩,
    ⟨some 45, .call 74 [(false, .t 43), (false, .t 44)], [14, 13], some (42, true)⟩,
    ⟨some 46, .mov none (.t 11), [12], some (42, true)⟩,
    ⟨some 47, .mov none (.t 3), [12], some (42, true)⟩,
    ⟨some 48, .call 75 [(false, .t 46), (false, .t 47)], [17, 16, 15], some (42, true)⟩,
    ⟨some 49, .call 65 [(false, .t 45), (false, .t 48)], [18], some (42, true)⟩,
    ⟨some 50, .pick (.t 42) (.t 49) (.k (.one (.iv (.bool false)))), [19], none⟩,
    ⟨some 51, .mov none (.t 50), [20], none⟩,
    ⟨some 52, .mov none (.t 10), [21], some (51, true)⟩,
    ⟨some 53, .call 47 [(false, .t 52)], [22], some (51, true)⟩,
    ⟨some 54, .mov none (.t 11), [21], some (51, true)⟩,
    ⟨some 55, .nilc (.t 54), [24], some (51, true)⟩,
    ⟨some 56, .fad 1 (.t 55), [25], some (51, true)⟩,
    ⟨some 57, .load false 1 (.t 56), [26], some (51, true)⟩,
    ⟨some 58, .bin .eql (.t 53) (.t 57), [27, 23], some (51, true)⟩,
    ⟨some 59, .pick (.t 51) (.t 58) (.k (.one (.iv (.bool false)))), [28], none⟩,
    ⟨some 60, .mov none (.t 59), [29], none⟩,
    ⟨some 61, .mov none (.t 10), [30], some (60, true)⟩,
    ⟨some 62, .call 48 [(false, .t 61)], [31], some (60, true)⟩,
    ⟨some 63, .mov none (.t 11), [30], some (60, true)⟩,
    ⟨some 64, .nilc (.t 63), [33], some (60, true)⟩,
    ⟨some 65, .fad 0 (.t 64), [34], some (60, true)⟩,
    ⟨some 66, .load false 1 (.t 65), [35], some (60, true)⟩,
    ⟨some 67, .blt .len [.t 66], [36], some (60, true)⟩,
    ⟨some 68, .bin .eql (.t 62) (.t 67), [37, 32], some (60, true)⟩,
    ⟨some 69, .pick (.t 60) (.t 68) (.k (.one (.iv (.bool false)))), [38], none⟩,
    ⟨some 70, .mov none (.t 69), [39], none⟩,
    ⟨some 71, .call 54 [], [40], some (70, true)⟩,
    ⟨some 72, .pick (.t 70) (.t 71) (.k (.one (.iv (.bool false)))), [41], none⟩,
    ⟨some 8, .mov none (.t 72), [42], none⟩])
  (.ret)))))
def v16 : VFn := ⟨4, 73, [.t 8], b16⟩

theorem c16 : chkFn Try.prog 16 v16 = true := by kernel_rfl

/- scholia/dots.Compare -/
def b17 : VCode := .seq (.region false [⟨some 2, .box (.t 0), [], none⟩,
    ⟨some 3, .box (.t 1), [], none⟩,
    ⟨some 4, .mov none (.k (.one (.iv (.int .i64 0)))), [], none⟩])
  (.seq (.region true [⟨some 5, .fad 0 (.t 2), [], none⟩,
    ⟨some 6, .load false 1 (.t 5), [0], none⟩,
    ⟨some 7, .fad 0 (.t 3), [], none⟩,
    ⟨some 8, .load false 1 (.t 7), [2], none⟩,
    ⟨some 9, .call 77 [(false, .t 6), (false, .t 8)], [3, 1], none⟩,
    ⟨some 10, .fad 1 (.t 2), [], none⟩,
    ⟨some 11, .load false 1 (.t 10), [5], none⟩,
    ⟨some 12, .fad 1 (.t 3), [], none⟩,
    ⟨some 13, .load false 1 (.t 12), [7], none⟩,
    ⟨some 14, .call 77 [(false, .t 11), (false, .t 13)], [8, 6, 4], none⟩,
    ⟨some 15, .mks false 1 [.t 9, .t 14], [9], none⟩,
    ⟨some 16, .call 76 [(false, .t 15)], [10], none⟩,
    ⟨some 4, .mov none (.t 16), [11], none⟩])
  (.ret))
def v17 : VFn := ⟨2, 17, [.t 4], b17⟩

theorem c17 : chkFn Try.prog 17 v17 = true := by kernel_rfl

/- scholia/dots.Valid -/
def b18 : VCode := .seq (.region false [⟨some 1, .box (.t 0), [], none⟩,
    ⟨some 2, .mov none (.k (.one (.iv (.bool false)))), [], none⟩])
  (.seq (.region false [⟨some 3, .fad 0 (.t 1), [], none⟩,
    ⟨some 4, .load false 1 (.t 3), [], none⟩,
    ⟨some 5, .bin .geq (.t 4) (.k (.one (.iv (.int .i64 0)))), [], none⟩,
    ⟨some 6, .mov none (.t 5), [], none⟩,
    ⟨some 7, .fad 0 (.t 1), [], some (6, true)⟩,
    ⟨some 8, .load false 1 (.t 7), [], some (6, true)⟩,
    ⟨some 9, .bin .lss (.t 8) (.k (.one (.iv (.int .i64 64)))), [], some (6, true)⟩,
    ⟨some 10, .pick (.t 6) (.t 9) (.k (.one (.iv (.bool false)))), [], none⟩,
    ⟨some 11, .mov none (.t 10), [], none⟩,
    ⟨some 12, .fad 1 (.t 1), [], some (11, true)⟩,
    ⟨some 13, .load false 1 (.t 12), [], some (11, true)⟩,
    ⟨some 14, .bin .geq (.t 13) (.k (.one (.iv (.int .i64 1)))), [], some (11, true)⟩,
    ⟨some 15, .pick (.t 11) (.t 14) (.k (.one (.iv (.bool false)))), [], none⟩,
    ⟨some 16, .mov none (.t 15), [], none⟩,
    ⟨some 17, .fad 1 (.t 1), [], some (16, true)⟩,
    ⟨some 18, .load false 1 (.t 17), [], some (16, true)⟩,
    ⟨some 19, .bin .leq (.t 18) (.k (.one (.iv (.int .i64 1073741824)))), [], some (16, true)⟩,
    ⟨some 20, .pick (.t 16) (.t 19) (.k (.one (.iv (.bool false)))), [], none⟩,
    ⟨some 2, .mov none (.t 20), [], none⟩])
  (.ret))
def v18 : VFn := ⟨1, 21, [.t 2], b18⟩

theorem c18 : chkFn Try.prog 18 v18 = true := by kernel_rfl

/- scholia/scholiaref08.Valid -/
def b19 : VCode := .seq (.region false [⟨some 1, .box (.t 0), [], none⟩,
    ⟨some 2, .mov none (.k (.one (.iv (.bool false)))), [], none⟩])
  (.seq (.region false [⟨some 3, .fad 0 (.t 1), [], none⟩,
    ⟨some 4, .load false 1 (.t 3), [], none⟩,
    ⟨some 5, .bin .geq (.t 4) (.k (.one (.iv (.int .i64 0)))), [], none⟩,
    ⟨some 6, .mov none (.t 5), [], none⟩,
    ⟨some 7, .fad 0 (.t 1), [], some (6, true)⟩,
    ⟨some 8, .load false 1 (.t 7), [], some (6, true)⟩,
    ⟨some 9, .bin .leq (.t 8) (.k (.one (.iv (.int .i64 63)))), [], some (6, true)⟩,
    ⟨some 10, .pick (.t 6) (.t 9) (.k (.one (.iv (.bool false)))), [], none⟩,
    ⟨some 11, .mov none (.t 10), [], none⟩,
    ⟨some 12, .fad 1 (.t 1), [], some (11, true)⟩,
    ⟨some 13, .load false 1 (.t 12), [], some (11, true)⟩,
    ⟨some 14, .bin .geq (.t 13) (.k (.one (.iv (.int .i64 1)))), [], some (11, true)⟩,
    ⟨some 15, .pick (.t 11) (.t 14) (.k (.one (.iv (.bool false)))), [], none⟩,
    ⟨some 16, .mov none (.t 15), [], none⟩,
    ⟨some 17, .fad 1 (.t 1), [], some (16, true)⟩,
    ⟨some 18, .load false 1 (.t 17), [], some (16, true)⟩,
    ⟨some 19, .bin .leq (.t 18) (.k (.one (.iv (.int .i64 1073741824)))), [], some (16, true)⟩,
    ⟨some 20, .pick (.t 16) (.t 19) (.k (.one (.iv (.bool false)))), [], none⟩,
    ⟨some 2, .mov none (.t 20), [], none⟩])
  (.ret))
def v19 : VFn := ⟨1, 21, [.t 2], b19⟩

theorem c19 : chkFn Try.prog 19 v19 = true := by kernel_rfl

/- scholia/scholiaref08.Less -/
def b20 : VCode := .seq (.region false [⟨some 2, .box (.t 0), [], none⟩,
    ⟨some 3, .box (.t 1), [], none⟩,
    ⟨some 4, .mov none (.k (.one (.iv (.bool false)))), [], none⟩])
  (.seq (.region false [⟨some 5, .fad 0 (.t 2), [], none⟩,
    ⟨some 6, .load false 1 (.t 5), [], none⟩,
    ⟨some 7, .fad 0 (.t 3), [], none⟩,
    ⟨some 8, .load false 1 (.t 7), [], none⟩,
    ⟨some 9, .bin .lss (.t 6) (.t 8), [], none⟩,
    ⟨some 10, .mov none (.t 9), [], none⟩,
    ⟨some 11, .fad 0 (.t 2), [], some (10, false)⟩,
    ⟨some 12, .load false 1 (.t 11), [], some (10, false)⟩,
    ⟨some 13, .fad 0 (.t 3), [], some (10, false)⟩,
    ⟨some 14, .load false 1 (.t 13), [], some (10, false)⟩,
    ⟨some 15, .bin .eql (.t 12) (.t 14), [], some (10, false)⟩,
    ⟨some 16, .mov none (.t 15), [], some (10, false)⟩,
    ⟨some 17, .fad 1 (.t 2), [], some (16, true)⟩,
    ⟨some 18, .load false 1 (.t 17), [], some (16, true)⟩,
    ⟨some 19, .fad 1 (.t 3), [], some (16, true)⟩,
    ⟨some 20, .load false 1 (.t 19), [], some (16, true)⟩,
    ⟨some 21, .bin .lss (.t 18) (.t 20), [], some (16, true)⟩,
    ⟨some 22, .pick (.t 16) (.t 21) (.k (.one (.iv (.bool false)))), [], some (10, false)⟩,
    ⟨some 23, .pick (.t 10) (.k (.one (.iv (.bool true)))) (.t 22), [], none⟩,
    ⟨some 4, .mov none (.t 23), [], none⟩])
  (.ret))
def v20 : VFn := ⟨2, 24, [.t 4], b20⟩

theorem c20 : chkFn Try.prog 20 v20 = true := by kernel_rfl

/- scholia/dots.With -/
def b23 : VCode := .seq (.region false [⟨some 2, .box (.t 0), [], none⟩,
    ⟨some 3, .box (.t 1), [], none⟩,
    ⟨some 4, .new [.iv (.arr 64 (List.replicate 64 (.int .i64 0)))], [], none⟩])
  (.seq (.seq (.region false [⟨some 5, .load true 2 (.t 3), [], none⟩,
    ⟨some 6, .call 18 [(false, .t 5)], [], none⟩])
  (.cond (.t 6) (.region true [⟨some 7, .fad 0 (.t 3), [], none⟩,
    ⟨some 8, .load false 1 (.t 7), [0], none⟩,
    ⟨some 9, .fad 0 (.t 3), [], none⟩,
    ⟨some 10, .load false 1 (.t 9), [2], none⟩,
    ⟨some 11, .ixA 64 1 (.t 2) (.t 10), [3], none⟩,
    ⟨some 12, .load false 1 (.t 11), [4], none⟩,
    ⟨some 13, .fad 1 (.t 3), [], none⟩,
    ⟨some 14, .load false 1 (.t 13), [6], none⟩,
    ⟨some 15, .blt .max [.t 12, .t 14], [7, 5], none⟩,
    ⟨some 16, .ixA 64 1 (.t 2) (.t 8), [8, 1], none⟩,
    ⟨none, .store 1 (.t 16) (.t 15), [9], none⟩]) (.skip)))
  (.seq (.region false [⟨some 17, .load true 64 (.t 2), [], none⟩,
    ⟨none, .store 64 (.t 4) (.t 17), [], none⟩])
  (.ret)))
def v23 : VFn := ⟨2, 18, [.c 4 true 64], b23⟩

theorem c23 : chkFn Try.prog 23 v23 = true := by kernel_rfl

/- scholia/coder.Read -/
def b45 : VCode := .seq (.region false [⟨some 2, .mov none (.k (.one (.iv .nilp))), [], none⟩])
  (.seq (.region false [⟨some 3, .mov none (.t 0), [], none⟩,
    ⟨some 4, .blt (.append 1 1) [.k (.one (.iv (.sl true 0 []))), .t 3], [], none⟩,
    ⟨some 5, .build [.iv (.sl true 0 []), .iv (.int .i64 0), .iv (.bool false)] [(0, 1, .t 4), (2, 1, .k (.one (.iv (.bool true))))], [], none⟩,
    ⟨some 6, .box (.t 5), [], none⟩,
    ⟨some 2, .mov none (.t 6), [], none⟩])
  (.ret))
def v45 : VFn := ⟨1, 7, [.t 2], b45⟩

theorem c45 : chkFn Try.prog 45 v45 = true := by kernel_rfl

/- (*scholia/coder.In).Err -/
def b47 : VCode := .seq (.region false [⟨some 2, .mov none (.k (.one (.iv (.int .i64 0)))), [], none⟩])
  (.seq (.seq (.region false [⟨some 3, .mov none (.t 0), [], none⟩,
    ⟨some 4, .eqs .eql .ptr (.t 3) (.k (.one (.iv .nilp))), [], none⟩,
    ⟨some 5, .mov none (.t 4), [], none⟩,
    ⟨some 6, .mov none (.t 0), [], some (5, false)⟩,
    ⟨some 7, .nilc (.t 6), [], some (5, false)⟩,
    ⟨some 8, .fad 2 (.t 7), [], some (5, false)⟩,
    ⟨some 9, .load false 1 (.t 8), [], some (5, false)⟩,
    ⟨some 10, .un .not (.t 9), [], some (5, false)⟩,
    ⟨some 11, .pick (.t 5) (.k (.one (.iv (.bool true)))) (.t 10), [], none⟩])
  (.cond (.t 11) (.seq (.region false [⟨some 2, .mov none (.k (.one (.iv (.int .i64 2)))), [], none⟩])
  (.ret)) (.skip)))
  (.seq (.region false [⟨some 12, .mov none (.t 0), [], none⟩,
    ⟨some 13, .nilc (.t 12), [], none⟩,
    ⟨some 14, .fad 1 (.t 13), [], none⟩,
    ⟨some 15, .load false 1 (.t 14), [], none⟩,
    ⟨some 2, .mov none (.t 15), [], none⟩])
  (.ret)))
def v47 : VFn := ⟨1, 16, [.t 2], b47⟩

theorem c47 : chkFn Try.prog 47 v47 = true := by kernel_rfl

/- (*scholia/coder.In).Left -/
def b48 : VCode := .seq (.region false [⟨some 2, .mov none (.k (.one (.iv (.int .i64 0)))), [], none⟩])
  (.seq (.seq (.region false [⟨some 3, .mov none (.t 0), [], none⟩,
    ⟨some 4, .eqs .eql .ptr (.t 3) (.k (.one (.iv .nilp))), [], none⟩])
  (.cond (.t 4) (.seq (.region false [⟨some 2, .mov none (.k (.one (.iv (.int .i64 0)))), [], none⟩])
  (.ret)) (.skip)))
  (.seq (.region false [⟨some 5, .mov none (.t 0), [], none⟩,
    ⟨some 6, .nilc (.t 5), [], none⟩,
    ⟨some 7, .fad 0 (.t 6), [], none⟩,
    ⟨some 8, .load false 1 (.t 7), [], none⟩,
    ⟨some 9, .blt .len [.t 8], [], none⟩,
    ⟨some 2, .mov none (.t 9), [], none⟩])
  (.ret)))
def v48 : VFn := ⟨1, 10, [.t 2], b48⟩

theorem c48 : chkFn Try.prog 48 v48 = true := by kernel_rfl

/- bytes.Equal -/
def b50 : VCode := .seq (.region false [⟨some 4, .mov none (.k (.one (.iv (.bool false)))), [], none⟩])
  (.seq (.region false [⟨some 5, .mov none (.t 0), [], none⟩,
    ⟨some 6, .b2s (.t 5), [], none⟩,
    ⟨some 7, .mov none (.t 1), [], none⟩,
    ⟨some 8, .b2s (.t 7), [], none⟩,
    ⟨some 9, .bin .eql (.t 6) (.t 8), [], none⟩,
    ⟨some 4, .mov none (.t 9), [], none⟩])
  (.ret))
def v50 : VFn := ⟨2, 10, [.t 4], b50⟩

theorem c50 : chkFn Try.prog 50 v50 = true := by kernel_rfl

/- scholia/scholiaplain.Few -/
def l53_1 : VCode := .seq (.region false [⟨some 25, .bin .lss (.t 24) (.t 23), [], none⟩])
  (.seq (.cond (.t 25) (.skip) (.exit 2))
  (.seq (.block 3 (.seq (.region false [⟨some 26, .ixS 8 (.t 22) (.t 24), [], none⟩,
    ⟨some 27, .load true 8 (.t 26), [], none⟩,
    ⟨some 8, .new [.iv (.int .i64 0), .iv (.int .i64 0), .iv (.int .i64 0), .iv (.int .i64 0), .iv (.str ⟨#[]⟩), .iv (.int .i64 0), .iv (.str ⟨#[]⟩), .iv (.sl true 0 [])], [], none⟩,
    ⟨none, .store 8 (.t 8) (.t 27), [], none⟩])
  (.seq (.seq (.region false [⟨some 28, .fad 7 (.t 8), [], none⟩,
    ⟨some 29, .load false 1 (.t 28), [], none⟩,
    ⟨some 30, .blt .len [.t 29], [], none⟩,
    ⟨some 31, .bin .gtr (.t 30) (.k (.one (.iv (.int .i64 130)))), [], none⟩])
  (.cond (.t 31) (.seq (.region false [⟨some 2, .mov none (.k (.one (.iv (.bool false)))), [], none⟩])
  (.ret)) (.skip)))
  (.seq (.region false [⟨some 32, .mov none (.t 4), [], none⟩,
    ⟨some 33, .fad 4 (.t 8), [], none⟩,
    ⟨some 34, .load false 1 (.t 33), [], none⟩,
    ⟨some 35, .blt .lenS [.t 34], [], none⟩,
    ⟨some 36, .blt .min [.t 35, .k (.one (.iv (.int .i64 8192)))], [], none⟩,
    ⟨some 37, .fad 6 (.t 8), [], none⟩,
    ⟨some 38, .load false 1 (.t 37), [], none⟩,
    ⟨some 39, .blt .lenS [.t 38], [], none⟩,
    ⟨some 40, .blt .min [.t 39, .k (.one (.iv (.int .i64 8192)))], [], none⟩,
    ⟨some 41, .bin .add (.t 36) (.t 40), [], none⟩,
    ⟨some 42, .bin .add (.t 32) (.t 41), [], none⟩,
    ⟨some 4, .mov none (.t 42), [], none⟩])
  (.seq (.region false [⟨some 43, .mov none (.t 4), [], none⟩,
    ⟨some 44, .bin .gtr (.t 43) (.k (.one (.iv (.int .i64 8192)))), [], none⟩])
  (.cond (.t 44) (.seq (.region false [⟨some 2, .mov none (.k (.one (.iv (.bool false)))), [], none⟩])
  (.ret)) (.skip)))))))
  (.region false [⟨some 45, .bin .add (.t 24) (.k (.one (.iv (.int .i64 1)))), [], none⟩,
    ⟨some 24, .mov none (.t 45), [], none⟩])))
def l53_0 : VCode := .seq (.region false [⟨some 12, .bin .lss (.t 11) (.t 10), [], none⟩])
  (.seq (.cond (.t 12) (.skip) (.exit 0))
  (.seq (.block 1 (.seq (.region false [⟨some 13, .ixS 1 (.t 9) (.t 11), [], none⟩,
    ⟨some 14, .load false 1 (.t 13), [], none⟩,
    ⟨some 6, .mov none (.t 14), [], none⟩])
  (.seq (.seq (.region false [⟨some 15, .mov none (.t 3), [], none⟩,
    ⟨some 16, .mov none (.t 6), [], none⟩,
    ⟨some 17, .blt .len [.t 16], [], none⟩,
    ⟨some 18, .blt .min [.t 17, .k (.one (.iv (.int .i64 100)))], [], none⟩,
    ⟨some 19, .bin .add (.t 15) (.t 18), [], none⟩,
    ⟨some 3, .mov none (.t 19), [], none⟩])
  (.seq (.region false [⟨some 20, .mov none (.t 3), [], none⟩,
    ⟨some 21, .bin .gtr (.t 20) (.k (.one (.iv (.int .i64 80)))), [], none⟩])
  (.cond (.t 21) (.seq (.region false [⟨some 2, .mov none (.k (.one (.iv (.bool false)))), [], none⟩])
  (.ret)) (.skip))))
  (.seq (.region false [⟨some 22, .mov none (.t 6), [], none⟩,
    ⟨some 23, .blt .len [.t 22], [], none⟩,
    ⟨some 24, .mov none (.k (.one (.iv (.int .i64 0)))), [], none⟩])
  (.block 2 (.loop false [3, 4, 9, 10, 11, 22, 23, 24] l53_1))))))
  (.region false [⟨some 46, .bin .add (.t 11) (.k (.one (.iv (.int .i64 1)))), [], none⟩,
    ⟨some 11, .mov none (.t 46), [], none⟩])))
def b53 : VCode := .seq (.region false [⟨some 2, .mov none (.k (.one (.iv (.bool false)))), [], none⟩])
  (.seq (.region false [⟨some 3, .mov none (.k (.one (.iv (.int .i64 0)))), [], none⟩,
    ⟨some 4, .mov none (.k (.one (.iv (.int .i64 0)))), [], none⟩])
  (.seq (.seq (.region false [⟨some 9, .mov none (.t 0), [], none⟩,
    ⟨some 10, .blt .len [.t 9], [], none⟩,
    ⟨some 11, .mov none (.k (.one (.iv (.int .i64 0)))), [], none⟩])
  (.block 0 (.loop false [3, 4, 9, 10, 11] l53_0)))
  (.seq (.region false [⟨some 2, .mov none (.k (.one (.iv (.bool true)))), [], none⟩])
  (.ret))))
def v53 : VFn := ⟨1, 47, [.t 2], b53⟩

theorem c53 : chkFn Try.prog 53 v53 = true := by kernel_rfl

/- scholia/scholialaw13.awake -/
def b54 : VCode := .seq (.region false [⟨some 0, .mov none (.k (.one (.iv (.bool false)))), [], none⟩])
  (.seq (.region false [⟨some 3, .build [.iv (.int .i64 0), .iv (.int .i64 0)] [(0, 1, .k (.one (.iv (.int .i64 0)))), (1, 1, .k (.one (.iv (.int .i64 1))))], [], none⟩,
    ⟨some 4, .build [.iv (.int .i64 0), .iv (.int .i64 0), .iv (.int .i64 0), .iv (.int .i64 0), .iv (.str ⟨#[]⟩), .iv (.int .i64 0), .iv (.str ⟨#[]⟩), .iv (.sl true 0 [])] [(0, 2, .t 3), (3, 1, .k (.one (.iv (.int .i64 1))))], [], none⟩,
    ⟨some 5, .build [.iv (.int .i64 0), .iv (.int .i64 0)] [(0, 1, .k (.one (.iv (.int .i64 0)))), (1, 1, .k (.one (.iv (.int .i64 2))))], [], none⟩,
    ⟨some 6, .build [.iv (.int .i64 0), .iv (.int .i64 0), .iv (.int .i64 0), .iv (.int .i64 0), .iv (.str ⟨#[]⟩), .iv (.int .i64 0), .iv (.str ⟨#[]⟩), .iv (.sl true 0 [])] [(0, 2, .t 5), (3, 1, .k (.one (.iv (.int .i64 2))))], [], none⟩,
    ⟨some 7, .build [.iv (.int .i64 0), .iv (.int .i64 0)] [(0, 1, .k (.one (.iv (.int .i64 1)))), (1, 1, .k (.one (.iv (.int .i64 1))))], [], none⟩,
    ⟨some 8, .build [.iv (.int .i64 0), .iv (.int .i64 0), .iv (.int .i64 0), .iv (.int .i64 0), .iv (.str ⟨#[]⟩), .iv (.int .i64 0), .iv (.str ⟨#[]⟩), .iv (.sl true 0 [])] [(0, 2, .t 7), (3, 1, .k (.one (.iv (.int .i64 1))))], [], none⟩,
    ⟨some 9, .mks false 8 [.t 4, .t 6, .t 8], [], none⟩,
    ⟨some 10, .build [.iv (.sl true 0 []), .iv (.arr 64 (List.replicate 64 (.int .i64 0)))] [(0, 1, .t 9)], [], none⟩,
    ⟨some 1, .new [.iv (.sl true 0 []), .iv (.arr 64 (List.replicate 64 (.int .i64 0)))], [], none⟩,
    ⟨none, .store 65 (.t 1) (.t 10), [], none⟩])
  (.seq (.region false [⟨some 11, .load true 65 (.t 1), [], none⟩,
    ⟨some 12, .call 55 [(false, .t 11), (false, .k (.one (.iv (.int .i64 1))))], [], none⟩,
    ⟨some 2, .new [.iv (.sl true 0 []), .iv (.arr 64 (List.replicate 64 (.int .i64 0)))], [], none⟩,
    ⟨none, .store 65 (.t 2) (.t 12), [], none⟩])
  (.seq (.region false [⟨some 13, .fad 0 (.t 2), [], none⟩,
    ⟨some 14, .load false 1 (.t 13), [], none⟩,
    ⟨some 15, .blt .len [.t 14], [], none⟩,
    ⟨some 16, .bin .eql (.t 15) (.k (.one (.iv (.int .i64 2)))), [], none⟩,
    ⟨some 17, .mov none (.t 16), [], none⟩,
    ⟨some 18, .fad 0 (.t 2), [], some (17, true)⟩,
    ⟨some 19, .load false 1 (.t 18), [], some (17, true)⟩,
    ⟨some 20, .ixS 8 (.t 19) (.k (.one (.iv (.int .i64 0)))), [], some (17, true)⟩,
    ⟨some 21, .fad 3 (.t 20), [], some (17, true)⟩,
    ⟨some 22, .load false 1 (.t 21), [], some (17, true)⟩,
    ⟨some 23, .bin .eql (.t 22) (.k (.one (.iv (.int .i64 2)))), [], some (17, true)⟩,
    ⟨some 24, .pick (.t 17) (.t 23) (.k (.one (.iv (.bool false)))), [], none⟩,
    ⟨some 25, .mov none (.t 24), [], none⟩,
    ⟨some 26, .fad 1 (.t 2), [], some (25, true)⟩,
    ⟨some 27, .ixA 64 1 (.t 26) (.k (.one (.iv (.int .i64 0)))), [], some (25, true)⟩,
    ⟨some 28, .load false 1 (.t 27), [], some (25, true)⟩,
    ⟨some 29, .bin .eql (.t 28) (.k (.one (.iv (.int .i64 1)))), [], some (25, true)⟩,
    ⟨some 30, .pick (.t 25) (.t 29) (.k (.one (.iv (.bool false)))), [], none⟩,
    ⟨some 31, .mov none (.t 30), [], none⟩,
    ⟨some 32, .load true 65 (.t 2), [], some (31, true)⟩,
    ⟨some 33, .call 57 [(false, .t 32)], [], some (31, true)⟩,
    ⟨some 34, .bin .eql (.t 33) (.k (.one (.iv (.int .i64 1)))), [], some (31, true)⟩,
    ⟨some 35, .pick (.t 31) (.t 34) (.k (.one (.iv (.bool false)))), [], none⟩,
    ⟨some 0, .mov none (.t 35), [], none⟩])
  (.ret))))
def v54 : VFn := ⟨0, 36, [.t 0], b54⟩

theorem c54 : chkFn Try.prog 54 v54 = true := by kernel_rfl

/- scholia/past.Trim -/
def l55_0 : VCode := .seq (.region false [⟨some 15, .bin .lss (.t 14) (.t 13), [], none⟩])
  (.seq (.cond (.t 15) (.skip) (.exit 0))
  (.seq (.block 1 (.seq (.region false [⟨some 16, .ixS 8 (.t 12) (.t 14), [], none⟩,
    ⟨some 17, .load true 8 (.t 16), [], none⟩,
    ⟨some 7, .new [.iv (.int .i64 0), .iv (.int .i64 0), .iv (.int .i64 0), .iv (.int .i64 0), .iv (.str ⟨#[]⟩), .iv (.int .i64 0), .iv (.str ⟨#[]⟩), .iv (.sl true 0 [])], [], none⟩,
    ⟨none, .store 8 (.t 7) (.t 17), [], none⟩])
  (.seq (.region false [⟨some 18, .fad 3 (.t 7), [], none⟩,
    ⟨some 19, .load false 1 (.t 18), [], none⟩,
    ⟨some 20, .bin .neq (.t 19) (.k (.one (.iv (.int .i64 2)))), [], none⟩])
  (.cond (.t 20) (.region false [⟨some 21, .mov none (.t 5), [], none⟩,
    ⟨some 22, .bin .add (.t 21) (.k (.one (.iv (.int .i64 1)))), [], none⟩,
    ⟨some 5, .mov none (.t 22), [], none⟩]) (.skip)))))
  (.region false [⟨some 23, .bin .add (.t 14) (.k (.one (.iv (.int .i64 1)))), [], none⟩,
    ⟨some 14, .mov none (.t 23), [], none⟩])))
def l55_1 : VCode := .seq (.region false [⟨some 31, .bin .lss (.t 30) (.t 29), [], none⟩])
  (.seq (.cond (.t 31) (.skip) (.exit 2))
  (.seq (.block 3 (.seq (.region false [⟨some 32, .ixS 8 (.t 28) (.t 30), [], none⟩,
    ⟨some 33, .load true 8 (.t 32), [], none⟩,
    ⟨some 10, .new [.iv (.int .i64 0), .iv (.int .i64 0), .iv (.int .i64 0), .iv (.int .i64 0), .iv (.str ⟨#[]⟩), .iv (.int .i64 0), .iv (.str ⟨#[]⟩), .iv (.sl true 0 [])], [], none⟩,
    ⟨none, .store 8 (.t 10) (.t 33), [], none⟩])
  (.seq (.seq (.region false [⟨some 34, .fad 3 (.t 10), [], none⟩,
    ⟨some 35, .load false 1 (.t 34), [], none⟩,
    ⟨some 36, .bin .neq (.t 35) (.k (.one (.iv (.int .i64 2)))), [], none⟩,
    ⟨some 37, .mov none (.t 36), [], none⟩,
    ⟨some 38, .mov none (.t 5), [], some (37, true)⟩,
    ⟨some 39, .mov none (.t 1), [], some (37, true)⟩,
    ⟨some 40, .blt .max [.t 39, .k (.one (.iv (.int .i64 0)))], [], some (37, true)⟩,
    ⟨some 41, .bin .gtr (.t 38) (.t 40), [], some (37, true)⟩,
    ⟨some 42, .pick (.t 37) (.t 41) (.k (.one (.iv (.bool false)))), [], none⟩])
  (.cond (.t 42) (.seq (.region false [⟨some 43, .fad 1 (.t 8), [], none⟩,
    ⟨some 44, .load true 64 (.t 43), [], none⟩,
    ⟨some 45, .fad 0 (.t 10), [], none⟩,
    ⟨some 46, .load true 2 (.t 45), [], none⟩,
    ⟨some 47, .call 23 [(false, .t 44), (false, .t 46)], [], none⟩,
    ⟨some 48, .fad 1 (.t 8), [], none⟩,
    ⟨none, .store 64 (.t 48) (.t 47), [], none⟩])
  (.seq (.region false [⟨some 49, .mov none (.t 5), [], none⟩,
    ⟨some 50, .bin .sub (.t 49) (.k (.one (.iv (.int .i64 1)))), [], none⟩,
    ⟨some 5, .mov none (.t 50), [], none⟩])
  (.exit 3))) (.skip)))
  (.region true [⟨some 51, .fad 0 (.t 8), [], none⟩,
    ⟨some 52, .load false 1 (.t 51), [0], none⟩,
    ⟨some 53, .load true 8 (.t 10), [], none⟩,
    ⟨some 54, .call 97 [(false, .t 53)], [2], none⟩,
    ⟨some 55, .mks false 8 [.t 54], [3], none⟩,
    ⟨some 56, .blt (.append 8 96) [.t 52, .t 55], [4, 1], none⟩,
    ⟨some 57, .fad 0 (.t 8), [5], none⟩,
    ⟨none, .store 1 (.t 57) (.t 56), [6], none⟩]))))
  (.region false [⟨some 58, .bin .add (.t 30) (.k (.one (.iv (.int .i64 1)))), [], none⟩,
    ⟨some 30, .mov none (.t 58), [], none⟩])))
def b55 : VCode := .seq (.region false [⟨some 2, .box (.t 0), [], none⟩,
    ⟨some 4, .new [.iv (.sl true 0 []), .iv (.arr 64 (List.replicate 64 (.int .i64 0)))], [], none⟩])
  (.seq (.region false [⟨some 5, .mov none (.k (.one (.iv (.int .i64 0)))), [], none⟩])
  (.seq (.seq (.region false [⟨some 11, .fad 0 (.t 2), [], none⟩,
    ⟨some 12, .load false 1 (.t 11), [], none⟩,
    ⟨some 13, .blt .len [.t 12], [], none⟩,
    ⟨some 14, .mov none (.k (.one (.iv (.int .i64 0)))), [], none⟩])
  (.block 0 (.loop false [1, 2, 4, 5, 12, 13, 14] l55_0)))
  (.seq (.region false [⟨some 24, .fad 1 (.t 2), [], none⟩,
    ⟨some 25, .load true 64 (.t 24), [], none⟩,
    ⟨some 26, .build [.fresh 8, .iv (.arr 64 (List.replicate 64 (.int .i64 0)))] [(1, 64, .t 25)], [], none⟩,
    ⟨some 8, .new [.iv (.sl true 0 []), .iv (.arr 64 (List.replicate 64 (.int .i64 0)))], [], none⟩,
    ⟨none, .store 65 (.t 8) (.t 26), [], none⟩])
  (.seq (.seq (.region false [⟨some 27, .fad 0 (.t 2), [], none⟩,
    ⟨some 28, .load false 1 (.t 27), [], none⟩,
    ⟨some 29, .blt .len [.t 28], [], none⟩,
    ⟨some 30, .mov none (.k (.one (.iv (.int .i64 0)))), [], none⟩])
  (.block 2 (.loop false [1, 4, 5, 8, 28, 29, 30] l55_1)))
  (.seq (.region false [⟨some 59, .load true 65 (.t 8), [], none⟩,
    ⟨none, .store 65 (.t 4) (.t 59), [], none⟩])
  (.ret))))))
def v55 : VFn := ⟨2, 60, [.c 4 true 65], b55⟩

theorem c55 : chkFn Try.prog 55 v55 = true := by kernel_rfl

/- scholia/past.Drops -/
def l57_0 : VCode := .seq (.region false [⟨some 10, .bin .lss (.t 9) (.t 8), [], none⟩])
  (.seq (.cond (.t 10) (.skip) (.exit 0))
  (.seq (.block 1 (.seq (.region false [⟨some 11, .ixS 8 (.t 7) (.t 9), [], none⟩,
    ⟨some 12, .load true 8 (.t 11), [], none⟩,
    ⟨some 5, .new [.iv (.int .i64 0), .iv (.int .i64 0), .iv (.int .i64 0), .iv (.int .i64 0), .iv (.str ⟨#[]⟩), .iv (.int .i64 0), .iv (.str ⟨#[]⟩), .iv (.sl true 0 [])], [], none⟩,
    ⟨none, .store 8 (.t 5) (.t 12), [], none⟩])
  (.seq (.region false [⟨some 13, .fad 3 (.t 5), [], none⟩,
    ⟨some 14, .load false 1 (.t 13), [], none⟩,
    ⟨some 15, .bin .eql (.t 14) (.k (.one (.iv (.int .i64 2)))), [], none⟩])
  (.cond (.t 15) (.region false [⟨some 16, .mov none (.t 3), [], none⟩,
    ⟨some 17, .bin .add (.t 16) (.k (.one (.iv (.int .i64 1)))), [], none⟩,
    ⟨some 3, .mov none (.t 17), [], none⟩]) (.skip)))))
  (.region false [⟨some 18, .bin .add (.t 9) (.k (.one (.iv (.int .i64 1)))), [], none⟩,
    ⟨some 9, .mov none (.t 18), [], none⟩])))
def b57 : VCode := .seq (.region false [⟨some 1, .box (.t 0), [], none⟩,
    ⟨some 2, .mov none (.k (.one (.iv (.int .i64 0)))), [], none⟩])
  (.seq (.region false [⟨some 3, .mov none (.k (.one (.iv (.int .i64 0)))), [], none⟩])
  (.seq (.seq (.region false [⟨some 6, .fad 0 (.t 1), [], none⟩,
    ⟨some 7, .load false 1 (.t 6), [], none⟩,
    ⟨some 8, .blt .len [.t 7], [], none⟩,
    ⟨some 9, .mov none (.k (.one (.iv (.int .i64 0)))), [], none⟩])
  (.block 0 (.loop false [3, 7, 8, 9] l57_0)))
  (.seq (.region false [⟨some 19, .mov none (.t 3), [], none⟩,
    ⟨some 2, .mov none (.t 19), [], none⟩])
  (.ret))))
def v57 : VFn := ⟨1, 20, [.t 2], b57⟩

theorem c57 : chkFn Try.prog 57 v57 = true := by kernel_rfl

/- scholia/scholiaref13.SameEvents -/
def l65_1 : VCode := .seq (.region false [⟨some 79, .bin .lss (.t 78) (.t 77), [], none⟩])
  (.seq (.cond (.t 79) (.skip) (.exit 2))
  (.seq (.block 3 (.seq (.region false [⟨some 80, .mov none (.t 78), [], none⟩,
    ⟨some 81, .ixS 2 (.t 76) (.t 78), [], none⟩,
    ⟨some 82, .load true 2 (.t 81), [], none⟩,
    ⟨some 9, .new [.iv (.int .i64 0), .iv (.int .i64 0)], [], none⟩,
    ⟨some 8, .mov none (.t 80), [], none⟩,
    ⟨none, .store 2 (.t 9) (.t 82), [], none⟩])
  (.seq (.region true [⟨some 83, .fad 7 (.t 7), [], none⟩,
    ⟨some 84, .load false 1 (.t 83), [0], none⟩,
    ⟨some 85, .mov none (.t 8), [], none⟩,
    ⟨some 86, .ixS 2 (.t 84) (.t 85), [2, 1], none⟩,
    ⟨some 87, .load true 2 (.t 86), [3], none⟩,
    ⟨some 88, .load true 2 (.t 9), [], none⟩,
    ⟨some 89, .eqa .neq ([.int] ++ [.int]) (.t 87) (.t 88), [5, 4], none⟩])
  (.cond (.t 89) (.seq (.region false [⟨some 4, .mov none (.k (.one (.iv (.bool false)))), [], none⟩])
  (.ret)) (.skip)))))
  (.region false [⟨some 90, .bin .add (.t 78) (.k (.one (.iv (.int .i64 1)))), [], none⟩,
    ⟨some 78, .mov none (.t 90), [], none⟩])))
def l65_0 : VCode := .seq (.region false [⟨some 18, .bin .lss (.t 17) (.t 16), [], none⟩])
  (.seq (.cond (.t 18) (.skip) (.exit 0))
  (.seq (.block 1 (.seq (.region false [⟨some 19, .mov none (.t 17), [], none⟩,
    ⟨some 20, .ixS 8 (.t 15) (.t 17), [], none⟩,
    ⟨some 21, .load true 8 (.t 20), [], none⟩,
    ⟨some 6, .new [.iv (.int .i64 0), .iv (.int .i64 0), .iv (.int .i64 0), .iv (.int .i64 0), .iv (.str ⟨#[]⟩), .iv (.int .i64 0), .iv (.str ⟨#[]⟩), .iv (.sl true 0 [])], [], none⟩,
    ⟨some 5, .mov none (.t 19), [], none⟩,
    ⟨none, .store 8 (.t 6) (.t 21), [], none⟩])
  (.seq (.region false [⟨some 22, .mov none (.t 1), [], none⟩,
    ⟨some 23, .mov none (.t 5), [], none⟩,
    ⟨some 24, .ixS 8 (.t 22) (.t 23), [], none⟩,
    ⟨some 25, .load true 8 (.t 24), [], none⟩,
    ⟨some 7, .new [.iv (.int .i64 0), .iv (.int .i64 0), .iv (.int .i64 0), .iv (.int .i64 0), .iv (.str ⟨#[]⟩), .iv (.int .i64 0), .iv (.str ⟨#[]⟩), .iv (.sl true 0 [])], [], none⟩,
    ⟨none, .store 8 (.t 7) (.t 25), [], none⟩])
  (.seq (.seq (.region false [⟨some 26, .fad 0 (.t 6), [], none⟩,
    ⟨some 27, .load true 2 (.t 26), [], none⟩,
    ⟨some 28, .fad 0 (.t 7), [], none⟩,
    ⟨some 29, .load true 2 (.t 28), [], none⟩,
    ⟨some 30, .eqa .neq ([.int] ++ [.int]) (.t 27) (.t 29), [], none⟩,
    ⟨some 31, .mov none (.t 30), [], none⟩,
    ⟨some 32, .fad 2 (.t 6), [], some (31, false)⟩,
    ⟨some 33, .load false 1 (.t 32), [], some (31, false)⟩,
    ⟨some 34, .fad 2 (.t 7), [], some (31, false)⟩,
    ⟨some 35, .load false 1 (.t 34), [], some (31, false)⟩,
    ⟨some 36, .bin .neq (.t 33) (.t 35), [], some (31, false)⟩,
    ⟨some 37, .pick (.t 31) (.k (.one (.iv (.bool true)))) (.t 36), [], none⟩,
    ⟨some 38, .mov none (.t 37), [], none⟩,
    ⟨some 39, .fad 3 (.t 6), [], some (38, false)⟩,
    ⟨some 40, .load false 1 (.t 39), [], some (38, false)⟩,
    ⟨some 41, .fad 3 (.t 7), [], some (38, false)⟩,
    ⟨some 42, .load false 1 (.t 41), [], some (38, false)⟩,
    ⟨some 43, .bin .neq (.t 40) (.t 42), [], some (38, false)⟩,
    ⟨some 44, .pick (.t 38) (.k (.one (.iv (.bool true)))) (.t 43), [], none⟩,
    ⟨some 45, .mov none (.t 44), [], none⟩,
    ⟨some 46, .fad 4 (.t 6), [], some (45, false)⟩,
    ⟨some 47, .load false 1 (.t 46), [], some (45, false)⟩,
    ⟨some 48, .fad 4 (.t 7), [], some (45, false)⟩,
    ⟨some 49, .load false 1 (.t 48), [], some (45, false)⟩,
    ⟨some 50, .bin .neq (.t 47) (.t 49), [], some (45, false)⟩,
    ⟨some 51, .pick (.t 45) (.k (.one (.iv (.bool true)))) (.t 50), [], none⟩,
    ⟨some 52, .mov none (.t 51), [], none⟩,
    ⟨some 53, .fad 5 (.t 6), [], some (52, false)⟩,
    ⟨some 54, .load false 1 (.t 53), [], some (52, false)⟩,
    ⟨some 55, .fad 5 (.t 7), [], some (52, false)⟩,
    ⟨some 56, .load false 1 (.t 55), [], some (52, false)⟩,
    ⟨some 57, .bin .neq (.t 54) (.t 56), [], some (52, false)⟩,
    ⟨some 58, .pick (.t 52) (.k (.one (.iv (.bool true)))) (.t 57), [], none⟩,
    ⟨some 59, .mov none (.t 58), [], none⟩,
    ⟨some 60, .fad 6 (.t 6), [], some (59, false)⟩,
    ⟨some 61, .load false 1 (.t 60), [], some (59, false)⟩,
    ⟨some 62, .fad 6 (.t 7), [], some (59, false)⟩,
    ⟨some 63, .load false 1 (.t 62), [], some (59, false)⟩,
    ⟨some 64, .bin .neq (.t 61) (.t 63), [], some (59, false)⟩,
    ⟨some 65, .pick (.t 59) (.k (.one (.iv (.bool true)))) (.t 64), [], none⟩,
    ⟨some 66, .mov none (.t 65), [], none⟩,
    ⟨some 67, .fad 7 (.t 6), [], some (66, false)⟩,
    ⟨some 68, .load false 1 (.t 67), [], some (66, false)⟩,
    ⟨some 69, .blt .len [.t 68], [], some (66, false)⟩,
    ⟨some 70, .fad 7 (.t 7), [], some (66, false)⟩,
    ⟨some 71, .load false 1 (.t 70), [], some (66, false)⟩,
    ⟨some 72, .blt .len [.t 71], [], some (66, false)⟩,
    ⟨some 73, .bin .neq (.t 69) (.t 72), [], some (66, false)⟩,
    ⟨some 74, .pick (.t 66) (.k (.one (.iv (.bool true)))) (.t 73), [], none⟩])
  (.cond (.t 74) (.seq (.region false [⟨some 4, .mov none (.k (.one (.iv (.bool false)))), [], none⟩])
  (.ret)) (.skip)))
  (.seq (.region false [⟨some 75, .fad 7 (.t 6), [], none⟩,
    ⟨some 76, .load false 1 (.t 75), [], none⟩,
    ⟨some 77, .blt .len [.t 76], [], none⟩,
    ⟨some 78, .mov none (.k (.one (.iv (.int .i64 0)))), [], none⟩])
  (.block 2 (.loop false [1, 7, 15, 16, 17, 76, 77, 78] l65_1)))))))
  (.region false [⟨some 91, .bin .add (.t 17) (.k (.one (.iv (.int .i64 1)))), [], none⟩,
    ⟨some 17, .mov none (.t 91), [], none⟩])))
def b65 : VCode := .seq (.region false [⟨some 4, .mov none (.k (.one (.iv (.bool false)))), [], none⟩])
  (.seq (.seq (.region false [⟨some 10, .mov none (.t 0), [], none⟩,
    ⟨some 11, .blt .len [.t 10], [], none⟩,
    ⟨some 12, .mov none (.t 1), [], none⟩,
    ⟨some 13, .blt .len [.t 12], [], none⟩,
    ⟨some 14, .bin .neq (.t 11) (.t 13), [], none⟩])
  (.cond (.t 14) (.seq (.region false [⟨some 4, .mov none (.k (.one (.iv (.bool false)))), [], none⟩])
  (.ret)) (.skip)))
  (.seq (.seq (.region false [⟨some 15, .mov none (.t 0), [], none⟩,
    ⟨some 16, .blt .len [.t 15], [], none⟩,
    ⟨some 17, .mov none (.k (.one (.iv (.int .i64 0)))), [], none⟩])
  (.block 0 (.loop false [1, 15, 16, 17] l65_0)))
  (.seq (.region false [⟨some 4, .mov none (.k (.one (.iv (.bool true)))), [], none⟩])
  (.ret))))
def v65 : VFn := ⟨2, 92, [.t 4], b65⟩

theorem c65 : chkFn Try.prog 65 v65 = true := by kernel_rfl

/- scholia/past.PutEvent -/
def l70_0 : VCode := .seq (.region false [⟨some 43, .bin .lss (.t 42) (.t 41), [], none⟩])
  (.seq (.cond (.t 43) (.skip) (.exit 0))
  (.seq (.block 1 (.seq (.region false [⟨some 44, .ixS 2 (.t 40) (.t 42), [], none⟩,
    ⟨some 45, .load true 2 (.t 44), [], none⟩,
    ⟨some 7, .new [.iv (.int .i64 0), .iv (.int .i64 0)], [], none⟩,
    ⟨none, .store 2 (.t 7) (.t 45), [], none⟩])
  (.region false [⟨some 46, .mov none (.t 5), [], none⟩,
    ⟨some 47, .load true 2 (.t 7), [], none⟩,
    ⟨some 48, .call 106 [(false, .t 46), (false, .t 47)], [], none⟩,
    ⟨some 5, .mov none (.t 48), [], none⟩])))
  (.region false [⟨some 49, .bin .add (.t 42) (.k (.one (.iv (.int .i64 1)))), [], none⟩,
    ⟨some 42, .mov none (.t 49), [], none⟩])))
def b70 : VCode := .seq (.region false [⟨some 3, .box (.t 1), [], none⟩,
    ⟨some 4, .mov none (.k (.one (.iv (.sl true 0 [])))), [], none⟩])
  (.seq (.region false [⟨some 8, .mov none (.t 0), [], none⟩,
    ⟨some 9, .blt (.append 1 1) [.k (.one (.iv (.sl true 0 []))), .t 8], [], none⟩,
    ⟨some 5, .mov none (.t 9), [], none⟩])
  (.seq (.seq (.region false [⟨some 10, .load true 8 (.t 3), [], none⟩,
    ⟨some 11, .call 105 [(false, .t 10)], [], none⟩,
    ⟨some 12, .bin .neq (.t 11) (.k (.one (.iv (.int .i64 0)))), [], none⟩])
  (.cond (.t 12) (.seq (.region false [⟨some 13, .mov none (.t 5), [], none⟩,
    ⟨some 4, .mov none (.t 13), [], none⟩])
  (.ret)) (.skip)))
  (.seq (.region true [⟨some 14, .mov none (.t 5), [], none⟩,
    ⟨some 15, .fad 0 (.t 3), [], none⟩,
    ⟨some 16, .load true 2 (.t 15), [1], none⟩,
    ⟨some 17, .call 106 [(false, .t 14), (false, .t 16)], [2, 0], none⟩,
    ⟨some 18, .fad 2 (.t 3), [], none⟩,
    ⟨some 19, .load false 1 (.t 18), [4], none⟩,
    ⟨some 20, .call 90 [(false, .t 17), (false, .t 19)], [5, 3], none⟩,
    ⟨some 21, .fad 3 (.t 3), [], none⟩,
    ⟨some 22, .load false 1 (.t 21), [7], none⟩,
    ⟨some 23, .call 90 [(false, .t 20), (false, .t 22)], [8, 6], none⟩,
    ⟨some 5, .mov none (.t 23), [9], none⟩])
  (.seq (.region true [⟨some 24, .mov none (.t 5), [], none⟩,
    ⟨some 25, .fad 4 (.t 3), [], none⟩,
    ⟨some 26, .load false 1 (.t 25), [1], none⟩,
    ⟨some 27, .call 107 [(false, .t 24), (false, .t 26)], [2, 0], none⟩,
    ⟨some 28, .fad 5 (.t 3), [], none⟩,
    ⟨some 29, .load false 1 (.t 28), [4], none⟩,
    ⟨some 30, .call 90 [(false, .t 27), (false, .t 29)], [5, 3], none⟩,
    ⟨some 31, .fad 6 (.t 3), [], none⟩,
    ⟨some 32, .load false 1 (.t 31), [7], none⟩,
    ⟨some 33, .call 107 [(false, .t 30), (false, .t 32)], [8, 6], none⟩,
    ⟨some 5, .mov none (.t 33), [9], none⟩])
  (.seq (.region false [⟨some 34, .mov none (.t 5), [], none⟩,
    ⟨some 35, .fad 7 (.t 3), [], none⟩,
    ⟨some 36, .load false 1 (.t 35), [], none⟩,
    ⟨some 37, .blt .len [.t 36], [], none⟩,
    ⟨some 38, .call 90 [(false, .t 34), (false, .t 37)], [], none⟩,
    ⟨some 5, .mov none (.t 38), [], none⟩])
  (.seq (.seq (.region false [⟨some 39, .fad 7 (.t 3), [], none⟩,
    ⟨some 40, .load false 1 (.t 39), [], none⟩,
    ⟨some 41, .blt .len [.t 40], [], none⟩,
    ⟨some 42, .mov none (.k (.one (.iv (.int .i64 0)))), [], none⟩])
  (.block 0 (.loop false [5, 40, 41, 42] l70_0)))
  (.seq (.region false [⟨some 50, .mov none (.t 5), [], none⟩,
    ⟨some 4, .mov none (.t 50), [], none⟩])
  (.ret))))))))
def v70 : VFn := ⟨2, 51, [.t 4], b70⟩

theorem c70 : chkFn Try.prog 70 v70 = true := by kernel_rfl

/- scholia/past.ReadEvent -/
def l71_0 : VCode := .seq (.seq (.region false [⟨some 25, .mov none (.t 4), [], none⟩,
    ⟨some 26, .bin .gtr (.t 25) (.k (.one (.iv (.int .i64 0)))), [], none⟩,
    ⟨some 27, .mov none (.t 26), [], none⟩,
    ⟨some 28, .mov none (.t 0), [], some (27, true)⟩,
    ⟨some 29, .call 47 [(false, .t 28)], [], some (27, true)⟩,
    ⟨some 30, .bin .eql (.t 29) (.k (.one (.iv (.int .i64 0)))), [], some (27, true)⟩,
    ⟨some 31, .pick (.t 27) (.t 30) (.k (.one (.iv (.bool false)))), [], none⟩])
  (.cond (.t 31) (.skip) (.exit 0)))
  (.seq (.block 1 (.region true [⟨some 34, .fad 7 (.t 3), [], none⟩,
    ⟨some 35, .load false 1 (.t 34), [0], none⟩,
    ⟨some 36, .mov none (.t 0), [], none⟩,
    ⟨some 37, .call 108 [(false, .t 36)], [2], none⟩,
    ⟨some 38, .mks false 2 [.t 37], [3], none⟩,
    ⟨some 39, .blt (.append 2 16) [.t 35, .t 38], [4, 1], none⟩,
    ⟨some 40, .fad 7 (.t 3), [5], none⟩,
    ⟨none, .store 1 (.t 40) (.t 39), [6], none⟩]))
  (.region false [⟨some 32, .mov none (.t 4), [], none⟩,
    ⟨some 33, .bin .sub (.t 32) (.k (.one (.iv (.int .i64 1)))), [], none⟩,
    ⟨some 4, .mov none (.t 33), [], none⟩]))
def b71 : VCode := .seq (.region false [⟨some 2, .new [.iv (.int .i64 0), .iv (.int .i64 0), .iv (.int .i64 0), .iv (.int .i64 0), .iv (.str ⟨#[]⟩), .iv (.int .i64 0), .iv (.str ⟨#[]⟩), .iv (.sl true 0 [])], [], none⟩])
  (.seq (.region false [⟨some 5, .mov none (.t 0), [], none⟩,
    ⟨some 6, .call 108 [(false, .t 5)], [], none⟩,
    ⟨some 7, .build [.iv (.int .i64 0), .iv (.int .i64 0), .iv (.int .i64 0), .iv (.int .i64 0), .iv (.str ⟨#[]⟩), .iv (.int .i64 0), .iv (.str ⟨#[]⟩), .fresh 2] [(0, 2, .t 6)], [], none⟩,
    ⟨some 3, .new [.iv (.int .i64 0), .iv (.int .i64 0), .iv (.int .i64 0), .iv (.int .i64 0), .iv (.str ⟨#[]⟩), .iv (.int .i64 0), .iv (.str ⟨#[]⟩), .iv (.sl true 0 [])], [], none⟩,
    ⟨none, .store 8 (.t 3) (.t 7), [], none⟩])
  (.seq (.region false [⟨some 8, .mov none (.t 0), [], none⟩,
    ⟨some 9, .call 92 [(false, .t 8), (false, .k (.one (.iv (.int .i64 1099511627776))))], [], none⟩,
    ⟨some 10, .fad 2 (.t 3), [], none⟩,
    ⟨none, .store 1 (.t 10) (.t 9), [], none⟩])
  (.seq (.region false [⟨some 11, .mov none (.t 0), [], none⟩,
    ⟨some 12, .call 92 [(false, .t 11), (false, .k (.one (.iv (.int .i64 2))))], [], none⟩,
    ⟨some 13, .fad 3 (.t 3), [], none⟩,
    ⟨none, .store 1 (.t 13) (.t 12), [], none⟩])
  (.seq (.region false [⟨some 14, .mov none (.t 0), [], none⟩,
    ⟨some 15, .call 109 [(false, .t 14), (false, .k (.one (.iv (.int .i64 12))))], [], none⟩,
    ⟨some 16, .fad 4 (.t 3), [], none⟩,
    ⟨none, .store 1 (.t 16) (.t 15), [], none⟩])
  (.seq (.region false [⟨some 17, .mov none (.t 0), [], none⟩,
    ⟨some 18, .call 92 [(false, .t 17), (false, .k (.one (.iv (.int .i64 4))))], [], none⟩,
    ⟨some 19, .fad 5 (.t 3), [], none⟩,
    ⟨none, .store 1 (.t 19) (.t 18), [], none⟩])
  (.seq (.region false [⟨some 20, .mov none (.t 0), [], none⟩,
    ⟨some 21, .call 109 [(false, .t 20), (false, .k (.one (.iv (.int .i64 160))))], [], none⟩,
    ⟨some 22, .fad 6 (.t 3), [], none⟩,
    ⟨none, .store 1 (.t 22) (.t 21), [], none⟩])
  (.seq (.seq (.region false [⟨some 23, .mov none (.t 0), [], none⟩,
    ⟨some 24, .call 92 [(false, .t 23), (false, .k (.one (.iv (.int .i64 120))))], [], none⟩,
    ⟨some 4, .mov none (.t 24), [], none⟩])
  (.block 0 (.loop false [0, 2, 3, 4] l71_0)))
  (.seq (.seq (.region false [⟨some 41, .mov none (.t 0), [], none⟩,
    ⟨some 42, .call 47 [(false, .t 41)], [], none⟩,
    ⟨some 43, .bin .eql (.t 42) (.k (.one (.iv (.int .i64 0)))), [], none⟩,
    ⟨some 44, .mov none (.t 43), [], none⟩,
    ⟨some 45, .load true 8 (.t 3), [], some (44, true)⟩,
    ⟨some 46, .call 105 [(false, .t 45)], [], some (44, true)⟩,
    ⟨some 47, .bin .neq (.t 46) (.k (.one (.iv (.int .i64 0)))), [], some (44, true)⟩,
    ⟨some 48, .pick (.t 44) (.t 47) (.k (.one (.iv (.bool false)))), [], none⟩])
  (.cond (.t 48) (.region false [⟨some 49, .mov none (.t 0), [], none⟩,
    ⟨some 50, .call 110 [(false, .t 49), (false, .k (.one (.iv (.int .i64 3))))], [], none⟩]) (.skip)))
  (.seq (.seq (.region false [⟨some 51, .mov none (.t 0), [], none⟩,
    ⟨some 52, .call 47 [(false, .t 51)], [], none⟩,
    ⟨some 53, .bin .neq (.t 52) (.k (.one (.iv (.int .i64 0)))), [], none⟩])
  (.cond (.t 53) (.seq (.region false [⟨some 54, .build [.iv (.int .i64 0), .iv (.int .i64 0), .iv (.int .i64 0), .iv (.int .i64 0), .iv (.str ⟨#[]⟩), .iv (.int .i64 0), .iv (.str ⟨#[]⟩), .iv (.sl true 0 [])] [], [], none⟩,
    ⟨none, .store 8 (.t 2) (.t 54), [], none⟩])
  (.ret)) (.skip)))
  (.seq (.region false [⟨some 55, .load true 8 (.t 3), [], none⟩,
    ⟨none, .store 8 (.t 2) (.t 55), [], none⟩])
  (.ret)))))))))))
def v71 : VFn := ⟨1, 56, [.c 2 true 8], b71⟩

theorem c71 : chkFn Try.prog 71 v71 = true := by kernel_rfl

/- scholia/past.PutEvents -/
def l72_0 : VCode := .seq (.region false [⟨some 15, .bin .lss (.t 14) (.t 13), [], none⟩])
  (.seq (.cond (.t 15) (.skip) (.exit 0))
  (.seq (.block 1 (.seq (.region false [⟨some 16, .ixS 8 (.t 12) (.t 14), [], none⟩,
    ⟨some 17, .load true 8 (.t 16), [], none⟩,
    ⟨some 7, .new [.iv (.int .i64 0), .iv (.int .i64 0), .iv (.int .i64 0), .iv (.int .i64 0), .iv (.str ⟨#[]⟩), .iv (.int .i64 0), .iv (.str ⟨#[]⟩), .iv (.sl true 0 [])], [], none⟩,
    ⟨none, .store 8 (.t 7) (.t 17), [], none⟩])
  (.region false [⟨some 18, .mov none (.t 5), [], none⟩,
    ⟨some 19, .load true 8 (.t 7), [], none⟩,
    ⟨some 20, .call 70 [(false, .t 18), (false, .t 19)], [], none⟩,
    ⟨some 5, .mov none (.t 20), [], none⟩])))
  (.region false [⟨some 21, .bin .add (.t 14) (.k (.one (.iv (.int .i64 1)))), [], none⟩,
    ⟨some 14, .mov none (.t 21), [], none⟩])))
def b72 : VCode := .seq (.region false [⟨some 4, .mov none (.k (.one (.iv (.sl true 0 [])))), [], none⟩])
  (.seq (.region false [⟨some 8, .mov none (.t 0), [], none⟩,
    ⟨some 9, .mov none (.t 1), [], none⟩,
    ⟨some 10, .blt .len [.t 9], [], none⟩,
    ⟨some 11, .call 90 [(false, .t 8), (false, .t 10)], [], none⟩,
    ⟨some 5, .mov none (.t 11), [], none⟩])
  (.seq (.seq (.region false [⟨some 12, .mov none (.t 1), [], none⟩,
    ⟨some 13, .blt .len [.t 12], [], none⟩,
    ⟨some 14, .mov none (.k (.one (.iv (.int .i64 0)))), [], none⟩])
  (.block 0 (.loop false [5, 12, 13, 14] l72_0)))
  (.seq (.region false [⟨some 22, .mov none (.t 5), [], none⟩,
    ⟨some 4, .mov none (.t 22), [], none⟩])
  (.ret))))
def v72 : VFn := ⟨2, 23, [.t 4], b72⟩

theorem c72 : chkFn Try.prog 72 v72 = true := by kernel_rfl

/- scholia/scholiaref13.PutEvents -/
def l73_0 : VCode := .seq (.region false [⟨some 15, .bin .lss (.t 14) (.t 13), [], none⟩])
  (.seq (.cond (.t 15) (.skip) (.exit 0))
  (.seq (.block 1 (.seq (.region false [⟨some 16, .ixS 8 (.t 12) (.t 14), [], none⟩,
    ⟨some 17, .load true 8 (.t 16), [], none⟩,
    ⟨some 7, .new [.iv (.int .i64 0), .iv (.int .i64 0), .iv (.int .i64 0), .iv (.int .i64 0), .iv (.str ⟨#[]⟩), .iv (.int .i64 0), .iv (.str ⟨#[]⟩), .iv (.sl true 0 [])], [], none⟩,
    ⟨none, .store 8 (.t 7) (.t 17), [], none⟩])
  (.region false [⟨some 18, .mov none (.t 5), [], none⟩,
    ⟨some 19, .load true 8 (.t 7), [], none⟩,
    ⟨some 20, .call 111 [(false, .t 18), (false, .t 19)], [], none⟩,
    ⟨some 5, .mov none (.t 20), [], none⟩])))
  (.region false [⟨some 21, .bin .add (.t 14) (.k (.one (.iv (.int .i64 1)))), [], none⟩,
    ⟨some 14, .mov none (.t 21), [], none⟩])))
def b73 : VCode := .seq (.region false [⟨some 4, .mov none (.k (.one (.iv (.sl true 0 [])))), [], none⟩])
  (.seq (.region false [⟨some 8, .mov none (.t 0), [], none⟩,
    ⟨some 9, .mov none (.t 1), [], none⟩,
    ⟨some 10, .blt .len [.t 9], [], none⟩,
    ⟨some 11, .call 94 [(false, .t 8), (false, .t 10)], [], none⟩,
    ⟨some 5, .mov none (.t 11), [], none⟩])
  (.seq (.seq (.region false [⟨some 12, .mov none (.t 1), [], none⟩,
    ⟨some 13, .blt .len [.t 12], [], none⟩,
    ⟨some 14, .mov none (.k (.one (.iv (.int .i64 0)))), [], none⟩])
  (.block 0 (.loop false [5, 12, 13, 14] l73_0)))
  (.seq (.region false [⟨some 22, .mov none (.t 5), [], none⟩,
    ⟨some 4, .mov none (.t 22), [], none⟩])
  (.ret))))
def v73 : VFn := ⟨2, 23, [.t 4], b73⟩

theorem c73 : chkFn Try.prog 73 v73 = true := by kernel_rfl

/- scholia/past.ReadEvents -/
def l74_0 : VCode := .seq (.seq (.region false [⟨some 10, .mov none (.t 6), [], none⟩,
    ⟨some 11, .bin .gtr (.t 10) (.k (.one (.iv (.int .i64 0)))), [], none⟩,
    ⟨some 12, .mov none (.t 11), [], none⟩,
    ⟨some 13, .mov none (.t 0), [], some (12, true)⟩,
    ⟨some 14, .call 47 [(false, .t 13)], [], some (12, true)⟩,
    ⟨some 15, .bin .eql (.t 14) (.k (.one (.iv (.int .i64 0)))), [], some (12, true)⟩,
    ⟨some 16, .pick (.t 12) (.t 15) (.k (.one (.iv (.bool false)))), [], none⟩])
  (.cond (.t 16) (.skip) (.exit 0)))
  (.seq (.block 1 (.region false [⟨some 19, .mov none (.t 5), [], none⟩,
    ⟨some 20, .mov none (.t 0), [], none⟩,
    ⟨some 21, .call 71 [(false, .t 20)], [], none⟩,
    ⟨some 22, .mks false 8 [.t 21], [], none⟩,
    ⟨some 23, .blt (.append 8 96) [.t 19, .t 22], [], none⟩,
    ⟨some 5, .mov none (.t 23), [], none⟩]))
  (.region false [⟨some 17, .mov none (.t 6), [], none⟩,
    ⟨some 18, .bin .sub (.t 17) (.k (.one (.iv (.int .i64 1)))), [], none⟩,
    ⟨some 6, .mov none (.t 18), [], none⟩]))
def b74 : VCode := .seq (.region false [⟨some 4, .mov none (.k (.one (.iv (.sl true 0 [])))), [], none⟩])
  (.seq (.region false [⟨some 5, .mov (some 8) (.k (.one (.iv (.sl true 0 [])))), [], none⟩])
  (.seq (.seq (.region false [⟨some 7, .mov none (.t 0), [], none⟩,
    ⟨some 8, .mov none (.t 1), [], none⟩,
    ⟨some 9, .call 92 [(false, .t 7), (false, .t 8)], [], none⟩,
    ⟨some 6, .mov none (.t 9), [], none⟩])
  (.block 0 (.loop false [0, 5, 6] l74_0)))
  (.seq (.seq (.region false [⟨some 24, .mov none (.t 0), [], none⟩,
    ⟨some 25, .call 47 [(false, .t 24)], [], none⟩,
    ⟨some 26, .bin .neq (.t 25) (.k (.one (.iv (.int .i64 0)))), [], none⟩])
  (.cond (.t 26) (.seq (.region false [⟨some 4, .mov none (.k (.one (.iv (.sl true 0 [])))), [], none⟩])
  (.ret)) (.skip)))
  (.seq (.region false [⟨some 27, .mov none (.t 5), [], none⟩,
    ⟨some 4, .mov none (.t 27), [], none⟩])
  (.ret)))))
def v74 : VFn := ⟨2, 28, [.t 4], b74⟩

theorem c74 : chkFn Try.prog 74 v74 = true := by kernel_rfl

/- scholia/scholiaref13.ReadEvents -/
def l75_0 : VCode := .seq (.region false [⟨some 13, .bin .lss (.t 12) (.t 11), [], none⟩])
  (.seq (.cond (.t 13) (.skip) (.exit 0))
  (.seq (.block 1 (.seq (.region false [⟨some 14, .mov none (.t 0), [], none⟩,
    ⟨some 15, .call 112 [(false, .t 14)], [], none⟩,
    ⟨some 7, .new [.iv (.int .i64 0), .iv (.int .i64 0), .iv (.int .i64 0), .iv (.int .i64 0), .iv (.str ⟨#[]⟩), .iv (.int .i64 0), .iv (.str ⟨#[]⟩), .iv (.sl true 0 [])], [], none⟩,
    ⟨none, .store 8 (.t 7) (.t 15), [], none⟩])
  (.seq (.seq (.region false [⟨some 16, .mov none (.t 0), [], none⟩,
    ⟨some 17, .nilc (.t 16), [], none⟩,
    ⟨some 18, .fad 1 (.t 17), [], none⟩,
    ⟨some 19, .load false 1 (.t 18), [], none⟩,
    ⟨some 20, .bin .neq (.t 19) (.k (.one (.iv (.int .i64 0)))), [], none⟩])
  (.cond (.t 20) (.seq (.region false [⟨some 4, .mov none (.k (.one (.iv (.sl true 0 [])))), [], none⟩])
  (.ret)) (.skip)))
  (.region false [⟨some 21, .mov none (.t 6), [], none⟩,
    ⟨some 22, .load true 8 (.t 7), [], none⟩,
    ⟨some 23, .mks false 8 [.t 22], [], none⟩,
    ⟨some 24, .blt (.append 8 96) [.t 21, .t 23], [], none⟩,
    ⟨some 6, .mov none (.t 24), [], none⟩]))))
  (.region false [⟨some 25, .bin .add (.t 12) (.k (.one (.iv (.int .i64 1)))), [], none⟩,
    ⟨some 12, .mov none (.t 25), [], none⟩])))
def b75 : VCode := .seq (.region false [⟨some 4, .mov none (.k (.one (.iv (.sl true 0 [])))), [], none⟩])
  (.seq (.region false [⟨some 8, .mov none (.t 0), [], none⟩,
    ⟨some 9, .mov none (.t 1), [], none⟩,
    ⟨some 10, .call 96 [(false, .t 8), (false, .t 9)], [], none⟩,
    ⟨some 5, .mov none (.t 10), [], none⟩])
  (.seq (.region false [⟨some 6, .mov (some 8) (.k (.one (.iv (.sl true 0 [])))), [], none⟩])
  (.seq (.seq (.region false [⟨some 11, .mov none (.t 5), [], none⟩,
    ⟨some 12, .mov none (.k (.one (.iv (.int .i64 0)))), [], none⟩])
  (.block 0 (.loop false [0, 6, 11, 12] l75_0)))
  (.seq (.region false [⟨some 26, .mov none (.t 6), [], none⟩,
    ⟨some 4, .mov none (.t 26), [], none⟩])
  (.ret)))))
def v75 : VFn := ⟨2, 27, [.t 4], b75⟩

theorem c75 : chkFn Try.prog 75 v75 = true := by kernel_rfl

/- cmp.Or[int] -/
def l76_0 : VCode := .seq (.region false [⟨some 9, .bin .lss (.t 8) (.t 7), [], none⟩])
  (.seq (.cond (.t 9) (.skip) (.exit 0))
  (.seq (.block 1 (.seq (.region false [⟨some 10, .ixS 1 (.t 6) (.t 8), [], none⟩,
    ⟨some 11, .load false 1 (.t 10), [], none⟩,
    ⟨some 5, .mov none (.t 11), [], none⟩])
  (.seq (.region false [⟨some 12, .mov none (.t 5), [], none⟩,
    ⟨some 13, .mov none (.t 3), [], none⟩,
    ⟨some 14, .bin .neq (.t 12) (.t 13), [], none⟩])
  (.cond (.t 14) (.seq (.region false [⟨some 15, .mov none (.t 5), [], none⟩,
    ⟨some 2, .mov none (.t 15), [], none⟩])
  (.ret)) (.skip)))))
  (.region false [⟨some 16, .bin .add (.t 8) (.k (.one (.iv (.int .i64 1)))), [], none⟩,
    ⟨some 8, .mov none (.t 16), [], none⟩])))
def b76 : VCode := .seq (.region false [⟨some 2, .mov none (.k (.one (.iv (.int .i64 0)))), [], none⟩])
  (.seq (.region false [⟨some 3, .mov none (.k (.one (.iv (.int .i64 0)))), [], none⟩])
  (.seq (.seq (.region false [⟨some 6, .mov none (.t 0), [], none⟩,
    ⟨some 7, .blt .len [.t 6], [], none⟩,
    ⟨some 8, .mov none (.k (.one (.iv (.int .i64 0)))), [], none⟩])
  (.block 0 (.loop false [3, 6, 7, 8] l76_0)))
  (.seq (.region false [⟨some 17, .mov none (.t 3), [], none⟩,
    ⟨some 2, .mov none (.t 17), [], none⟩])
  (.ret))))
def v76 : VFn := ⟨1, 18, [.t 2], b76⟩

theorem c76 : chkFn Try.prog 76 v76 = true := by kernel_rfl

/- cmp.Compare[int] -/
def b77 : VCode := .seq (.region false [⟨some 4, .mov none (.k (.one (.iv (.int .i64 0)))), [], none⟩])
  (.seq (.region false [⟨some 7, .mov none (.t 0), [], none⟩,
    ⟨some 8, .call 113 [(false, .t 7)], [], none⟩,
    ⟨some 5, .mov none (.t 8), [], none⟩])
  (.seq (.region false [⟨some 9, .mov none (.t 1), [], none⟩,
    ⟨some 10, .call 113 [(false, .t 9)], [], none⟩,
    ⟨some 6, .mov none (.t 10), [], none⟩])
  (.seq (.seq (.region false [⟨some 11, .mov none (.t 5), [], none⟩])
  (.cond (.t 11) (.seq (.seq (.region false [⟨some 12, .mov none (.t 6), [], none⟩])
  (.cond (.t 12) (.seq (.region false [⟨some 4, .mov none (.k (.one (.iv (.int .i64 0)))), [], none⟩])
  (.ret)) (.skip)))
  (.seq (.region false [⟨some 4, .mov none (.k (.one (.iv (.int .i64 (-1))))), [], none⟩])
  (.ret))) (.skip)))
  (.seq (.seq (.region false [⟨some 13, .mov none (.t 6), [], none⟩])
  (.cond (.t 13) (.seq (.region false [⟨some 4, .mov none (.k (.one (.iv (.int .i64 1)))), [], none⟩])
  (.ret)) (.skip)))
  (.seq (.seq (.region false [⟨some 14, .mov none (.t 0), [], none⟩,
    ⟨some 15, .mov none (.t 1), [], none⟩,
    ⟨some 16, .bin .lss (.t 14) (.t 15), [], none⟩])
  (.cond (.t 16) (.seq (.region false [⟨some 4, .mov none (.k (.one (.iv (.int .i64 (-1))))), [], none⟩])
  (.ret)) (.skip)))
  (.seq (.seq (.region false [⟨some 17, .mov none (.t 0), [], none⟩,
    ⟨some 18, .mov none (.t 1), [], none⟩,
    ⟨some 19, .bin .gtr (.t 17) (.t 18), [], none⟩])
  (.cond (.t 19) (.seq (.region false [⟨some 4, .mov none (.k (.one (.iv (.int .i64 1)))), [], none⟩])
  (.ret)) (.skip)))
  (.seq (.region false [⟨some 4, .mov none (.k (.one (.iv (.int .i64 0)))), [], none⟩])
  (.ret))))))))
def v77 : VFn := ⟨2, 20, [.t 4], b77⟩

theorem c77 : chkFn Try.prog 77 v77 = true := by kernel_rfl

/- scholia/coder.Num -/
def l90_0 : VCode := .seq (.seq (.region false [⟨some 41, .mov none (.t 8), [], none⟩,
    ⟨some 42, .bin .geq (.t 41) (.k (.one (.iv (.int .i64 0)))), [], none⟩])
  (.cond (.t 42) (.skip) (.exit 0)))
  (.seq (.block 1 (.region false [⟨some 45, .mov none (.t 7), [], none⟩,
    ⟨some 46, .mov none (.t 5), [], none⟩,
    ⟨some 47, .mov none (.t 8), [], none⟩,
    ⟨some 48, .bin .mul (.k (.one (.iv (.int .i64 8)))) (.t 47), [], none⟩,
    ⟨some 49, .bin .shr (.t 46) (.t 48), [], none⟩,
    ⟨some 50, .conv .u8 (.t 49), [], none⟩,
    ⟨some 51, .mks false 1 [.t 50], [], none⟩,
    ⟨some 52, .blt (.append 1 1) [.t 45, .t 51], [], none⟩,
    ⟨some 7, .mov none (.t 52), [], none⟩]))
  (.region false [⟨some 43, .mov none (.t 8), [], none⟩,
    ⟨some 44, .bin .sub (.t 43) (.k (.one (.iv (.int .i64 1)))), [], none⟩,
    ⟨some 8, .mov none (.t 44), [], none⟩]))
def b90 : VCode := .seq (.region false [⟨some 4, .mov none (.k (.one (.iv (.sl true 0 [])))), [], none⟩])
  (.seq (.region false [⟨some 9, .mov none (.t 1), [], none⟩,
    ⟨some 10, .blt .max [.t 9, .k (.one (.iv (.int .i64 0)))], [], none⟩,
    ⟨some 11, .conv .u64 (.t 10), [], none⟩,
    ⟨some 5, .mov none (.t 11), [], none⟩])
  (.seq (.region false [⟨some 12, .mov none (.t 5), [], none⟩,
    ⟨some 13, .call 121 [(false, .t 12)], [], none⟩,
    ⟨some 6, .mov none (.t 13), [], none⟩])
  (.seq (.region true [⟨some 14, .mov none (.t 0), [], none⟩,
    ⟨some 15, .mov none (.t 0), [], none⟩,
    ⟨some 16, .blt .len [.t 15], [1], none⟩,
    ⟨some 17, .mov none (.t 0), [], none⟩,
    ⟨some 18, .blt .len [.t 17], [3], none⟩,
    ⟨some 19, .slS 1 (.t 14) none (some (.t 16)) (some (.t 18)), [4, 2, 0], none⟩,
    ⟨some 20, .mov none (.t 6), [], none⟩,
    ⟨some 21, .bin .shr (.k (.one (.iv (.int .u64 65280)))) (.t 20), [6], none⟩,
    ⟨some 22, .conv .u8 (.t 21), [7], none⟩,
    ⟨some 23, .mks false 1 [.t 22], [8], none⟩,
    ⟨some 24, .blt (.append 1 1) [.t 19, .t 23], [9, 5], none⟩,
    ⟨some 7, .mov none (.t 24), [10], none⟩])
  (.seq (.seq (.region false [⟨some 25, .mov none (.t 6), [], none⟩,
    ⟨some 26, .bin .lss (.t 25) (.k (.one (.iv (.int .i64 8)))), [], none⟩])
  (.cond (.t 26) (.region true [⟨some 27, .mov none (.t 7), [], none⟩,
    ⟨some 28, .mov none (.t 0), [], none⟩,
    ⟨some 29, .blt .len [.t 28], [1], none⟩,
    ⟨some 30, .ixS 1 (.t 27) (.t 29), [2, 0], none⟩,
    ⟨some 31, .load false 1 (.t 30), [3], none⟩,
    ⟨some 32, .mov none (.t 5), [], none⟩,
    ⟨some 33, .mov none (.t 6), [], none⟩,
    ⟨some 34, .bin .mul (.k (.one (.iv (.int .i64 8)))) (.t 33), [6], none⟩,
    ⟨some 35, .bin .shr (.t 32) (.t 34), [7, 5], none⟩,
    ⟨some 36, .conv .u8 (.t 35), [8], none⟩,
    ⟨some 37, .bin .or (.t 31) (.t 36), [9, 4], none⟩,
    ⟨some 38, .ixS 1 (.t 27) (.t 29), [10], none⟩,
    ⟨none, .store 1 (.t 38) (.t 37), [11], none⟩]) (.skip)))
  (.seq (.seq (.region false [⟨some 39, .mov none (.t 6), [], none⟩,
    ⟨some 40, .bin .sub (.t 39) (.k (.one (.iv (.int .i64 1)))), [], none⟩,
    ⟨some 8, .mov none (.t 40), [], none⟩])
  (.block 0 (.loop false [5, 7, 8] l90_0)))
  (.seq (.region false [⟨some 53, .mov none (.t 7), [], none⟩,
    ⟨some 4, .mov none (.t 53), [], none⟩])
  (.ret)))))))
def v90 : VFn := ⟨2, 54, [.t 4], b90⟩

theorem c90 : chkFn Try.prog 90 v90 = true := by kernel_rfl

/- (*scholia/coder.In).Num -/
def b92 : VCode := .seq (.region false [⟨some 4, .mov none (.k (.one (.iv (.int .i64 0)))), [], none⟩])
  (.seq (.region false [⟨some 8, .mov none (.t 0), [], none⟩,
    ⟨some 9, .call 122 [(false, .t 8)], [], none⟩,
    ⟨some 7, .mov none (.t 9), [], none⟩,
    ⟨some 10, .ext 0 (.t 7), [], none⟩,
    ⟨some 11, .ext 1 (.t 7), [], none⟩,
    ⟨some 5, .mov none (.t 10), [], none⟩,
    ⟨some 6, .mov none (.t 11), [], none⟩])
  (.seq (.seq (.region false [⟨some 12, .mov none (.t 6), [], none⟩,
    ⟨some 13, .un .not (.t 12), [], none⟩])
  (.cond (.t 13) (.seq (.region false [⟨some 4, .mov none (.k (.one (.iv (.int .i64 0)))), [], none⟩])
  (.ret)) (.skip)))
  (.seq (.seq (.region false [⟨some 14, .mov none (.t 5), [], none⟩,
    ⟨some 15, .bin .shr (.t 14) (.k (.one (.iv (.int .u64 63)))), [], none⟩,
    ⟨some 16, .bin .eql (.t 15) (.k (.one (.iv (.int .u64 1)))), [], none⟩,
    ⟨some 17, .mov none (.t 16), [], none⟩,
    ⟨some 18, .mov none (.t 5), [], some (17, false)⟩,
    ⟨some 19, .conv .i64 (.t 18), [], some (17, false)⟩,
    ⟨some 20, .mov none (.t 1), [], some (17, false)⟩,
    ⟨some 21, .bin .gtr (.t 19) (.t 20), [], some (17, false)⟩,
    ⟨some 22, .pick (.t 17) (.k (.one (.iv (.bool true)))) (.t 21), [], none⟩])
  (.cond (.t 22) (.seq (.region false [⟨some 23, .mov none (.t 0), [], none⟩,
    ⟨some 24, .call 110 [(false, .t 23), (false, .k (.one (.iv (.int .i64 5))))], [], none⟩])
  (.seq (.region false [⟨some 4, .mov none (.k (.one (.iv (.int .i64 0)))), [], none⟩])
  (.ret))) (.skip)))
  (.seq (.region false [⟨some 25, .mov none (.t 5), [], none⟩,
    ⟨some 26, .conv .i64 (.t 25), [], none⟩,
    ⟨some 4, .mov none (.t 26), [], none⟩])
  (.ret)))))
def v92 : VFn := ⟨2, 27, [.t 4], b92⟩

theorem c92 : chkFn Try.prog 92 v92 = true := by kernel_rfl

/- scholia/scholiaref01.Num -/
def b94 : VCode := .seq (.region false [⟨some 4, .mov none (.k (.one (.iv (.sl true 0 [])))), [], none⟩])
  (.seq (.seq (.region false [⟨some 5, .mov none (.t 1), [], none⟩,
    ⟨some 6, .bin .lss (.t 5) (.k (.one (.iv (.int .i64 0)))), [], none⟩])
  (.cond (.t 6) (.region false [⟨some 1, .mov none (.k (.one (.iv (.int .i64 0)))), [], none⟩]) (.skip)))
  (.seq (.region false [⟨some 7, .mov none (.t 0), [], none⟩,
    ⟨some 8, .mov none (.t 1), [], none⟩,
    ⟨some 9, .conv .u64 (.t 8), [], none⟩,
    ⟨some 10, .call 124 [(false, .t 9)], [], none⟩,
    ⟨some 11, .call 123 [(false, .t 7), (false, .t 10)], [], none⟩,
    ⟨some 4, .mov none (.t 11), [], none⟩])
  (.ret)))
def v94 : VFn := ⟨2, 12, [.t 4], b94⟩

theorem c94 : chkFn Try.prog 94 v94 = true := by kernel_rfl

/- (*scholia/scholiaref01.In).Num -/
def b96 : VCode := .seq (.region false [⟨some 4, .mov none (.k (.one (.iv (.int .i64 0)))), [], none⟩])
  (.seq (.region false [⟨some 6, .mov none (.t 0), [], none⟩,
    ⟨some 7, .call 125 [(false, .t 6)], [], none⟩,
    ⟨some 5, .mov none (.t 7), [], none⟩])
  (.seq (.seq (.region false [⟨some 8, .mov none (.t 5), [], none⟩,
    ⟨some 9, .bin .geq (.t 8) (.k (.one (.iv (.int .u64 9223372036854775808)))), [], none⟩,
    ⟨some 10, .mov none (.t 9), [], none⟩,
    ⟨some 11, .mov none (.t 0), [], some (10, false)⟩,
    ⟨some 12, .nilc (.t 11), [], some (10, false)⟩,
    ⟨some 13, .fad 1 (.t 12), [], some (10, false)⟩,
    ⟨some 14, .load false 1 (.t 13), [], some (10, false)⟩,
    ⟨some 15, .bin .eql (.t 14) (.k (.one (.iv (.int .i64 0)))), [], some (10, false)⟩,
    ⟨some 16, .mov none (.t 15), [], some (10, false)⟩,
    ⟨some 17, .mov none (.t 5), [], some (16, true)⟩,
    ⟨some 18, .conv .i64 (.t 17), [], some (16, true)⟩,
    ⟨some 19, .mov none (.t 1), [], some (16, true)⟩,
    ⟨some 20, .bin .gtr (.t 18) (.t 19), [], some (16, true)⟩,
    ⟨some 21, .pick (.t 16) (.t 20) (.k (.one (.iv (.bool false)))), [], some (10, false)⟩,
    ⟨some 22, .pick (.t 10) (.k (.one (.iv (.bool true)))) (.t 21), [], none⟩])
  (.cond (.t 22) (.seq (.region false [⟨some 23, .mov none (.t 0), [], none⟩,
    ⟨some 24, .call 126 [(false, .t 23), (false, .k (.one (.iv (.int .i64 5))))], [], none⟩])
  (.seq (.region false [⟨some 4, .mov none (.k (.one (.iv (.int .i64 0)))), [], none⟩])
  (.ret))) (.skip)))
  (.seq (.region false [⟨some 25, .mov none (.t 5), [], none⟩,
    ⟨some 26, .conv .i64 (.t 25), [], none⟩,
    ⟨some 4, .mov none (.t 26), [], none⟩])
  (.ret))))
def v96 : VFn := ⟨2, 27, [.t 4], b96⟩

theorem c96 : chkFn Try.prog 96 v96 = true := by kernel_rfl

/- scholia/past.clone -/
def b97 : VCode := .seq (.region false [⟨some 1, .box (.t 0), [], none⟩,
    ⟨some 2, .new [.iv (.int .i64 0), .iv (.int .i64 0), .iv (.int .i64 0), .iv (.int .i64 0), .iv (.str ⟨#[]⟩), .iv (.int .i64 0), .iv (.str ⟨#[]⟩), .iv (.sl true 0 [])], [], none⟩])
  (.seq (.region false [⟨some 3, .fad 7 (.t 1), [], none⟩,
    ⟨some 4, .load false 1 (.t 3), [], none⟩,
    ⟨some 5, .call 83 [(false, .t 4)], [], none⟩,
    ⟨some 6, .fad 7 (.t 1), [], none⟩,
    ⟨none, .store 1 (.t 6) (.t 5), [], none⟩])
  (.seq (.region false [⟨some 7, .load true 8 (.t 1), [], none⟩,
    ⟨none, .store 8 (.t 2) (.t 7), [], none⟩])
  (.ret)))
def v97 : VFn := ⟨1, 8, [.c 2 true 8], b97⟩

theorem c97 : chkFn Try.prog 97 v97 = true := by kernel_rfl

/- scholia/docs.Check -/
def b105 : VCode := .seq (.region false [⟨some 1, .box (.t 0), [], none⟩,
    ⟨some 2, .mov none (.k (.one (.iv (.int .i64 0)))), [], none⟩])
  (.seq (.block 0 (.seq (.region false [⟨some 4, .fad 0 (.t 1), [], none⟩,
    ⟨some 5, .load true 2 (.t 4), [], none⟩,
    ⟨some 6, .call 18 [(false, .t 5)], [], none⟩,
    ⟨some 7, .un .not (.t 6), [], none⟩,
    ⟨some 8, .mov none (.t 7), [], none⟩,
    ⟨some 9, .fad 2 (.t 1), [], some (8, false)⟩,
    ⟨some 10, .load false 1 (.t 9), [], some (8, false)⟩,
    ⟨some 11, .bin .lss (.t 10) (.k (.one (.iv (.int .i64 1)))), [], some (8, false)⟩,
    ⟨some 12, .pick (.t 8) (.k (.one (.iv (.bool true)))) (.t 11), [], none⟩,
    ⟨some 13, .mov none (.t 12), [], none⟩,
    ⟨some 14, .fad 2 (.t 1), [], some (13, false)⟩,
    ⟨some 15, .load false 1 (.t 14), [], some (13, false)⟩,
    ⟨some 16, .bin .gtr (.t 15) (.k (.one (.iv (.int .i64 1099511627776)))), [], some (13, false)⟩,
    ⟨some 17, .pick (.t 13) (.k (.one (.iv (.bool true)))) (.t 16), [], none⟩,
    ⟨some 18, .mov none (.t 17), [], none⟩,
    ⟨some 19, .fad 4 (.t 1), [], some (18, false)⟩,
    ⟨some 20, .load false 1 (.t 19), [], some (18, false)⟩,
    ⟨some 21, .call 129 [(false, .t 20)], [], some (18, false)⟩,
    ⟨some 22, .un .not (.t 21), [], some (18, false)⟩,
    ⟨some 23, .pick (.t 18) (.k (.one (.iv (.bool true)))) (.t 22), [], none⟩,
    ⟨some 24, .mov none (.t 23), [], none⟩,
    ⟨some 25, .fad 0 (.t 1), [], some (24, false)⟩,
    ⟨some 26, .load true 2 (.t 25), [], some (24, false)⟩,
    ⟨some 27, .fad 7 (.t 1), [], some (24, false)⟩,
    ⟨some 28, .load false 1 (.t 27), [], some (24, false)⟩,
    ⟨some 29, .call 130 [(false, .t 26), (false, .t 28)], [], some (24, false)⟩,
    ⟨some 30, .un .not (.t 29), [], some (24, false)⟩,
    ⟨some 31, .pick (.t 24) (.k (.one (.iv (.bool true)))) (.t 30), [], none⟩,
    ⟨some 3, .mov none (.t 31), [], none⟩])
  (.cond (.t 3) (.seq (.region false [⟨some 2, .mov none (.k (.one (.iv (.int .i64 1)))), [], none⟩])
  (.ret)) (.seq (.region false [⟨some 33, .fad 3 (.t 1), [], none⟩,
    ⟨some 34, .load false 1 (.t 33), [], none⟩,
    ⟨some 35, .bin .eql (.t 34) (.k (.one (.iv (.int .i64 2)))), [], none⟩,
    ⟨some 36, .mov none (.t 35), [], none⟩,
    ⟨some 37, .fad 5 (.t 1), [], some (36, true)⟩,
    ⟨some 38, .load false 1 (.t 37), [], some (36, true)⟩,
    ⟨some 39, .bin .eql (.t 38) (.k (.one (.iv (.int .i64 0)))), [], some (36, true)⟩,
    ⟨some 40, .pick (.t 36) (.t 39) (.k (.one (.iv (.bool false)))), [], none⟩,
    ⟨some 41, .mov none (.t 40), [], none⟩,
    ⟨some 42, .fad 6 (.t 1), [], some (41, true)⟩,
    ⟨some 43, .load false 1 (.t 42), [], some (41, true)⟩,
    ⟨some 44, .bin .eql (.t 43) (.k (.one (.iv (.str ⟨#[]⟩)))), [], some (41, true)⟩,
    ⟨some 45, .pick (.t 41) (.t 44) (.k (.one (.iv (.bool false)))), [], none⟩,
    ⟨some 32, .mov none (.t 45), [], none⟩])
  (.cond (.t 32) (.seq (.region false [⟨some 2, .mov none (.k (.one (.iv (.int .i64 0)))), [], none⟩])
  (.ret)) (.seq (.region false [⟨some 47, .fad 3 (.t 1), [], none⟩,
    ⟨some 48, .load false 1 (.t 47), [], none⟩,
    ⟨some 49, .bin .neq (.t 48) (.k (.one (.iv (.int .i64 1)))), [], none⟩,
    ⟨some 46, .mov none (.t 49), [], none⟩])
  (.cond (.t 46) (.seq (.region false [⟨some 2, .mov none (.k (.one (.iv (.int .i64 1)))), [], none⟩])
  (.ret)) (.skip))))))))
  (.seq (.region false [⟨some 50, .fad 5 (.t 1), [], none⟩,
    ⟨some 51, .load false 1 (.t 50), [], none⟩,
    ⟨some 52, .fad 6 (.t 1), [], none⟩,
    ⟨some 53, .load false 1 (.t 52), [], none⟩,
    ⟨some 54, .call 131 [(false, .t 51), (false, .t 53)], [], none⟩,
    ⟨some 2, .mov none (.t 54), [], none⟩])
  (.ret)))
def v105 : VFn := ⟨1, 55, [.t 2], b105⟩

theorem c105 : chkFn Try.prog 105 v105 = true := by kernel_rfl

/- scholia/docs.PutDot -/
def b106 : VCode := .seq (.region false [⟨some 3, .box (.t 1), [], none⟩,
    ⟨some 4, .mov none (.k (.one (.iv (.sl true 0 [])))), [], none⟩])
  (.seq (.region true [⟨some 5, .mov none (.t 0), [], none⟩,
    ⟨some 6, .fad 0 (.t 3), [], none⟩,
    ⟨some 7, .load false 1 (.t 6), [1], none⟩,
    ⟨some 8, .call 90 [(false, .t 5), (false, .t 7)], [2, 0], none⟩,
    ⟨some 9, .fad 1 (.t 3), [], none⟩,
    ⟨some 10, .load false 1 (.t 9), [4], none⟩,
    ⟨some 11, .call 90 [(false, .t 8), (false, .t 10)], [5, 3], none⟩,
    ⟨some 4, .mov none (.t 11), [6], none⟩])
  (.ret))
def v106 : VFn := ⟨2, 12, [.t 4], b106⟩

theorem c106 : chkFn Try.prog 106 v106 = true := by kernel_rfl

/- scholia/coder.Text -/
def b107 : VCode := .seq (.region false [⟨some 4, .mov none (.k (.one (.iv (.sl true 0 [])))), [], none⟩])
  (.seq (.region false [⟨some 5, .mov none (.t 0), [], none⟩,
    ⟨some 6, .mov none (.t 1), [], none⟩,
    ⟨some 7, .blt .lenS [.t 6], [], none⟩,
    ⟨some 8, .call 90 [(false, .t 5), (false, .t 7)], [], none⟩,
    ⟨some 9, .mov none (.t 1), [], none⟩,
    ⟨some 10, .blt (.append 1 1) [.t 8, .t 9], [], none⟩,
    ⟨some 4, .mov none (.t 10), [], none⟩])
  (.ret))
def v107 : VFn := ⟨2, 11, [.t 4], b107⟩

theorem c107 : chkFn Try.prog 107 v107 = true := by kernel_rfl

/- scholia/docs.ReadDot -/
def b108 : VCode := .seq (.region false [⟨some 2, .new [.iv (.int .i64 0), .iv (.int .i64 0)], [], none⟩])
  (.seq (.region false [⟨some 4, .mov none (.t 0), [], none⟩,
    ⟨some 5, .call 92 [(false, .t 4), (false, .k (.one (.iv (.int .i64 63))))], [], none⟩,
    ⟨some 6, .build [.iv (.int .i64 0), .iv (.int .i64 0)] [(0, 1, .t 5)], [], none⟩,
    ⟨some 3, .new [.iv (.int .i64 0), .iv (.int .i64 0)], [], none⟩,
    ⟨none, .store 2 (.t 3) (.t 6), [], none⟩])
  (.seq (.region false [⟨some 7, .mov none (.t 0), [], none⟩,
    ⟨some 8, .call 92 [(false, .t 7), (false, .k (.one (.iv (.int .i64 1073741824))))], [], none⟩,
    ⟨some 9, .fad 1 (.t 3), [], none⟩,
    ⟨none, .store 1 (.t 9) (.t 8), [], none⟩])
  (.seq (.region false [⟨some 10, .load true 2 (.t 3), [], none⟩,
    ⟨none, .store 2 (.t 2) (.t 10), [], none⟩])
  (.ret))))
def v108 : VFn := ⟨1, 11, [.c 2 true 2], b108⟩

theorem c108 : chkFn Try.prog 108 v108 = true := by kernel_rfl

/- (*scholia/coder.In).Text -/
def b109 : VCode := .seq (.region false [⟨some 4, .mov none (.k (.one (.iv (.str ⟨#[]⟩)))), [], none⟩])
  (.seq (.region false [⟨some 8, .mov none (.t 0), [], none⟩,
    ⟨some 9, .mov none (.t 0), [], none⟩,
    ⟨some 10, .mov none (.t 1), [], none⟩,
    ⟨some 11, .call 92 [(false, .t 9), (false, .t 10)], [], none⟩,
    ⟨some 12, .call 132 [(false, .t 8), (false, .t 11)], [], none⟩,
    ⟨some 7, .mov none (.t 12), [], none⟩,
    ⟨some 13, .ext 0 (.t 7), [], none⟩,
    ⟨some 14, .ext 1 (.t 7), [], none⟩,
    ⟨some 5, .mov none (.t 13), [], none⟩,
    ⟨some 6, .mov none (.t 14), [], none⟩])
  (.seq (.region false [⟨some 15, .mov none (.t 5), [], none⟩,
    ⟨some 16, .b2s (.t 15), [], none⟩,
    ⟨some 4, .mov none (.t 16), [], none⟩])
  (.ret)))
def v109 : VFn := ⟨2, 17, [.t 4], b109⟩

theorem c109 : chkFn Try.prog 109 v109 = true := by kernel_rfl

/- (*scholia/coder.In).Fail -/
def b110 : VCode := .seq (.seq (.region false [⟨some 4, .mov none (.t 0), [], none⟩,
    ⟨some 5, .eqs .eql .ptr (.t 4) (.k (.one (.iv .nilp))), [], none⟩,
    ⟨some 6, .mov none (.t 5), [], none⟩,
    ⟨some 7, .mov none (.t 0), [], some (6, false)⟩,
    ⟨some 8, .nilc (.t 7), [], some (6, false)⟩,
    ⟨some 9, .fad 2 (.t 8), [], some (6, false)⟩,
    ⟨some 10, .load false 1 (.t 9), [], some (6, false)⟩,
    ⟨some 11, .un .not (.t 10), [], some (6, false)⟩,
    ⟨some 12, .pick (.t 6) (.k (.one (.iv (.bool true)))) (.t 11), [], none⟩,
    ⟨some 13, .mov none (.t 12), [], none⟩,
    ⟨some 14, .mov none (.t 0), [], some (13, false)⟩,
    ⟨some 15, .nilc (.t 14), [], some (13, false)⟩,
    ⟨some 16, .fad 1 (.t 15), [], some (13, false)⟩,
    ⟨some 17, .load false 1 (.t 16), [], some (13, false)⟩,
    ⟨some 18, .bin .neq (.t 17) (.k (.one (.iv (.int .i64 0)))), [], some (13, false)⟩,
    ⟨some 19, .pick (.t 13) (.k (.one (.iv (.bool true)))) (.t 18), [], none⟩,
    ⟨some 20, .mov none (.t 19), [], none⟩,
    ⟨some 21, .mov none (.t 1), [], some (20, false)⟩,
    ⟨some 22, .bin .eql (.t 21) (.k (.one (.iv (.int .i64 0)))), [], some (20, false)⟩,
    ⟨some 23, .pick (.t 20) (.k (.one (.iv (.bool true)))) (.t 22), [], none⟩])
  (.cond (.t 23) (.ret) (.skip)))
  (.region false [⟨some 24, .mov none (.t 0), [], none⟩,
    ⟨some 25, .mov none (.t 0), [], none⟩,
    ⟨some 26, .mov none (.t 1), [], none⟩,
    ⟨some 27, .nilc (.t 24), [], none⟩,
    ⟨some 28, .fad 1 (.t 27), [], none⟩,
    ⟨none, .store 1 (.t 28) (.t 26), [], none⟩,
    ⟨some 29, .nilc (.t 25), [], none⟩,
    ⟨some 30, .fad 0 (.t 29), [], none⟩,
    ⟨none, .store 1 (.t 30) (.k (.one (.iv (.sl true 0 [])))), [], none⟩])
def v110 : VFn := ⟨2, 31, [], b110⟩

theorem c110 : chkFn Try.prog 110 v110 = true := by kernel_rfl

/- scholia/scholiaref13.PutEvent -/
def l111_0 : VCode := .seq (.region false [⟨some 47, .bin .lss (.t 46) (.t 45), [], none⟩])
  (.seq (.cond (.t 47) (.skip) (.exit 0))
  (.seq (.block 1 (.seq (.region false [⟨some 48, .ixS 2 (.t 44) (.t 46), [], none⟩,
    ⟨some 49, .load true 2 (.t 48), [], none⟩,
    ⟨some 7, .new [.iv (.int .i64 0), .iv (.int .i64 0)], [], none⟩,
    ⟨none, .store 2 (.t 7) (.t 49), [], none⟩])
  (.region false [⟨some 50, .mov none (.t 5), [], none⟩,
    ⟨some 51, .load true 2 (.t 7), [], none⟩,
    ⟨some 52, .call 134 [(false, .t 50), (false, .t 51)], [], none⟩,
    ⟨some 5, .mov none (.t 52), [], none⟩])))
  (.region false [⟨some 53, .bin .add (.t 46) (.k (.one (.iv (.int .i64 1)))), [], none⟩,
    ⟨some 46, .mov none (.t 53), [], none⟩])))
def b111 : VCode := .seq (.region false [⟨some 3, .box (.t 1), [], none⟩,
    ⟨some 4, .mov none (.k (.one (.iv (.sl true 0 [])))), [], none⟩])
  (.seq (.seq (.region false [⟨some 8, .load true 8 (.t 3), [], none⟩,
    ⟨some 9, .call 133 [(false, .t 8)], [], none⟩,
    ⟨some 10, .bin .neq (.t 9) (.k (.one (.iv (.int .i64 0)))), [], none⟩])
  (.cond (.t 10) (.seq (.region false [⟨some 11, .mks false 1 [], [], none⟩,
    ⟨some 12, .mov none (.t 0), [], none⟩,
    ⟨some 13, .blt (.append 1 1) [.t 11, .t 12], [], none⟩,
    ⟨some 4, .mov none (.t 13), [], none⟩])
  (.ret)) (.skip)))
  (.seq (.region false [⟨some 14, .mov none (.t 0), [], none⟩,
    ⟨some 15, .fad 0 (.t 3), [], none⟩,
    ⟨some 16, .load true 2 (.t 15), [], none⟩,
    ⟨some 17, .call 134 [(false, .t 14), (false, .t 16)], [], none⟩,
    ⟨some 5, .mov none (.t 17), [], none⟩])
  (.seq (.region false [⟨some 18, .mov none (.t 5), [], none⟩,
    ⟨some 19, .fad 2 (.t 3), [], none⟩,
    ⟨some 20, .load false 1 (.t 19), [], none⟩,
    ⟨some 21, .call 94 [(false, .t 18), (false, .t 20)], [], none⟩,
    ⟨some 5, .mov none (.t 21), [], none⟩])
  (.seq (.region false [⟨some 22, .mov none (.t 5), [], none⟩,
    ⟨some 23, .fad 3 (.t 3), [], none⟩,
    ⟨some 24, .load false 1 (.t 23), [], none⟩,
    ⟨some 25, .call 94 [(false, .t 22), (false, .t 24)], [], none⟩,
    ⟨some 5, .mov none (.t 25), [], none⟩])
  (.seq (.region false [⟨some 26, .mov none (.t 5), [], none⟩,
    ⟨some 27, .fad 4 (.t 3), [], none⟩,
    ⟨some 28, .load false 1 (.t 27), [], none⟩,
    ⟨some 29, .call 135 [(false, .t 26), (false, .t 28)], [], none⟩,
    ⟨some 5, .mov none (.t 29), [], none⟩])
  (.seq (.region false [⟨some 30, .mov none (.t 5), [], none⟩,
    ⟨some 31, .fad 5 (.t 3), [], none⟩,
    ⟨some 32, .load false 1 (.t 31), [], none⟩,
    ⟨some 33, .call 94 [(false, .t 30), (false, .t 32)], [], none⟩,
    ⟨some 5, .mov none (.t 33), [], none⟩])
  (.seq (.region false [⟨some 34, .mov none (.t 5), [], none⟩,
    ⟨some 35, .fad 6 (.t 3), [], none⟩,
    ⟨some 36, .load false 1 (.t 35), [], none⟩,
    ⟨some 37, .call 135 [(false, .t 34), (false, .t 36)], [], none⟩,
    ⟨some 5, .mov none (.t 37), [], none⟩])
  (.seq (.region false [⟨some 38, .mov none (.t 5), [], none⟩,
    ⟨some 39, .fad 7 (.t 3), [], none⟩,
    ⟨some 40, .load false 1 (.t 39), [], none⟩,
    ⟨some 41, .blt .len [.t 40], [], none⟩,
    ⟨some 42, .call 94 [(false, .t 38), (false, .t 41)], [], none⟩,
    ⟨some 5, .mov none (.t 42), [], none⟩])
  (.seq (.seq (.region false [⟨some 43, .fad 7 (.t 3), [], none⟩,
    ⟨some 44, .load false 1 (.t 43), [], none⟩,
    ⟨some 45, .blt .len [.t 44], [], none⟩,
    ⟨some 46, .mov none (.k (.one (.iv (.int .i64 0)))), [], none⟩])
  (.block 0 (.loop false [5, 44, 45, 46] l111_0)))
  (.seq (.region false [⟨some 54, .mov none (.t 5), [], none⟩,
    ⟨some 4, .mov none (.t 54), [], none⟩])
  (.ret)))))))))))
def v111 : VFn := ⟨2, 55, [.t 4], b111⟩

theorem c111 : chkFn Try.prog 111 v111 = true := by kernel_rfl

/- scholia/scholiaref13.ReadEvent -/
def l112_0 : VCode := .seq (.region false [⟨some 27, .bin .lss (.t 26) (.t 25), [], none⟩])
  (.seq (.cond (.t 27) (.skip) (.exit 0))
  (.seq (.block 1 (.region true [⟨some 28, .fad 7 (.t 3), [], none⟩,
    ⟨some 29, .load false 1 (.t 28), [0], none⟩,
    ⟨some 30, .mov none (.t 0), [], none⟩,
    ⟨some 31, .call 136 [(false, .t 30)], [2], none⟩,
    ⟨some 32, .mks false 2 [.t 31], [3], none⟩,
    ⟨some 33, .blt (.append 2 16) [.t 29, .t 32], [4, 1], none⟩,
    ⟨some 34, .fad 7 (.t 3), [5], none⟩,
    ⟨none, .store 1 (.t 34) (.t 33), [6], none⟩]))
  (.region false [⟨some 35, .bin .add (.t 26) (.k (.one (.iv (.int .i64 1)))), [], none⟩,
    ⟨some 26, .mov none (.t 35), [], none⟩])))
def b112 : VCode := .seq (.region false [⟨some 2, .new [.iv (.int .i64 0), .iv (.int .i64 0), .iv (.int .i64 0), .iv (.int .i64 0), .iv (.str ⟨#[]⟩), .iv (.int .i64 0), .iv (.str ⟨#[]⟩), .iv (.sl true 0 [])], [], none⟩])
  (.seq (.region false [⟨some 5, .mov none (.t 0), [], none⟩,
    ⟨some 6, .call 136 [(false, .t 5)], [], none⟩,
    ⟨some 7, .build [.iv (.int .i64 0), .iv (.int .i64 0), .iv (.int .i64 0), .iv (.int .i64 0), .iv (.str ⟨#[]⟩), .iv (.int .i64 0), .iv (.str ⟨#[]⟩), .fresh 2] [(0, 2, .t 6)], [], none⟩,
    ⟨some 3, .new [.iv (.int .i64 0), .iv (.int .i64 0), .iv (.int .i64 0), .iv (.int .i64 0), .iv (.str ⟨#[]⟩), .iv (.int .i64 0), .iv (.str ⟨#[]⟩), .iv (.sl true 0 [])], [], none⟩,
    ⟨none, .store 8 (.t 3) (.t 7), [], none⟩])
  (.seq (.region false [⟨some 8, .mov none (.t 0), [], none⟩,
    ⟨some 9, .call 96 [(false, .t 8), (false, .k (.one (.iv (.int .i64 1099511627776))))], [], none⟩,
    ⟨some 10, .fad 2 (.t 3), [], none⟩,
    ⟨none, .store 1 (.t 10) (.t 9), [], none⟩])
  (.seq (.region false [⟨some 11, .mov none (.t 0), [], none⟩,
    ⟨some 12, .call 96 [(false, .t 11), (false, .k (.one (.iv (.int .i64 2))))], [], none⟩,
    ⟨some 13, .fad 3 (.t 3), [], none⟩,
    ⟨none, .store 1 (.t 13) (.t 12), [], none⟩])
  (.seq (.region false [⟨some 14, .mov none (.t 0), [], none⟩,
    ⟨some 15, .call 137 [(false, .t 14), (false, .k (.one (.iv (.int .i64 12))))], [], none⟩,
    ⟨some 16, .fad 4 (.t 3), [], none⟩,
    ⟨none, .store 1 (.t 16) (.t 15), [], none⟩])
  (.seq (.region false [⟨some 17, .mov none (.t 0), [], none⟩,
    ⟨some 18, .call 96 [(false, .t 17), (false, .k (.one (.iv (.int .i64 4))))], [], none⟩,
    ⟨some 19, .fad 5 (.t 3), [], none⟩,
    ⟨none, .store 1 (.t 19) (.t 18), [], none⟩])
  (.seq (.region false [⟨some 20, .mov none (.t 0), [], none⟩,
    ⟨some 21, .call 137 [(false, .t 20), (false, .k (.one (.iv (.int .i64 160))))], [], none⟩,
    ⟨some 22, .fad 6 (.t 3), [], none⟩,
    ⟨none, .store 1 (.t 22) (.t 21), [], none⟩])
  (.seq (.region false [⟨some 23, .mov none (.t 0), [], none⟩,
    ⟨some 24, .call 96 [(false, .t 23), (false, .k (.one (.iv (.int .i64 120))))], [], none⟩,
    ⟨some 4, .mov none (.t 24), [], none⟩])
  (.seq (.seq (.region false [⟨some 25, .mov none (.t 4), [], none⟩,
    ⟨some 26, .mov none (.k (.one (.iv (.int .i64 0)))), [], none⟩])
  (.block 0 (.loop false [0, 2, 3, 25, 26] l112_0)))
  (.seq (.seq (.region false [⟨some 36, .mov none (.t 0), [], none⟩,
    ⟨some 37, .nilc (.t 36), [], none⟩,
    ⟨some 38, .fad 1 (.t 37), [], none⟩,
    ⟨some 39, .load false 1 (.t 38), [], none⟩,
    ⟨some 40, .bin .eql (.t 39) (.k (.one (.iv (.int .i64 0)))), [], none⟩,
    ⟨some 41, .mov none (.t 40), [], none⟩,
    ⟨some 42, .load true 8 (.t 3), [], some (41, true)⟩,
    ⟨some 43, .call 133 [(false, .t 42)], [], some (41, true)⟩,
    ⟨some 44, .bin .neq (.t 43) (.k (.one (.iv (.int .i64 0)))), [], some (41, true)⟩,
    ⟨some 45, .pick (.t 41) (.t 44) (.k (.one (.iv (.bool false)))), [], none⟩])
  (.cond (.t 45) (.region false [⟨some 46, .mov none (.t 0), [], none⟩,
    ⟨some 47, .call 126 [(false, .t 46), (false, .k (.one (.iv (.int .i64 3))))], [], none⟩]) (.skip)))
  (.seq (.seq (.region false [⟨some 48, .mov none (.t 0), [], none⟩,
    ⟨some 49, .nilc (.t 48), [], none⟩,
    ⟨some 50, .fad 1 (.t 49), [], none⟩,
    ⟨some 51, .load false 1 (.t 50), [], none⟩,
    ⟨some 52, .bin .neq (.t 51) (.k (.one (.iv (.int .i64 0)))), [], none⟩])
  (.cond (.t 52) (.seq (.region false [⟨some 53, .build [.iv (.int .i64 0), .iv (.int .i64 0), .iv (.int .i64 0), .iv (.int .i64 0), .iv (.str ⟨#[]⟩), .iv (.int .i64 0), .iv (.str ⟨#[]⟩), .iv (.sl true 0 [])] [], [], none⟩,
    ⟨none, .store 8 (.t 2) (.t 53), [], none⟩])
  (.ret)) (.skip)))
  (.seq (.region false [⟨some 54, .load true 8 (.t 3), [], none⟩,
    ⟨none, .store 8 (.t 2) (.t 54), [], none⟩])
  (.ret))))))))))))
def v112 : VFn := ⟨1, 55, [.c 2 true 8], b112⟩

theorem c112 : chkFn Try.prog 112 v112 = true := by kernel_rfl

/- cmp.isNaN[int] -/
def b113 : VCode := .seq (.region false [⟨some 2, .mov none (.k (.one (.iv (.bool false)))), [], none⟩])
  (.seq (.region false [⟨some 3, .mov none (.t 0), [], none⟩,
    ⟨some 4, .mov none (.t 0), [], none⟩,
    ⟨some 5, .bin .neq (.t 3) (.t 4), [], none⟩,
    ⟨some 2, .mov none (.t 5), [], none⟩])
  (.ret))
def v113 : VFn := ⟨1, 6, [.t 2], b113⟩

theorem c113 : chkFn Try.prog 113 v113 = true := by kernel_rfl

/- scholia/coder.need -/
def b121 : VCode := .seq (.region false [⟨some 2, .mov none (.k (.one (.iv (.int .i64 0)))), [], none⟩])
  (.seq (.region false [⟨some 4, .mov none (.t 0), [], none⟩,
    ⟨some 5, .call 148 [(false, .t 4)], [], none⟩,
    ⟨some 3, .mov none (.t 5), [], none⟩])
  (.seq (.seq (.region false [⟨some 6, .mov none (.t 3), [], none⟩,
    ⟨some 7, .bin .gtr (.t 6) (.k (.one (.iv (.int .i64 56)))), [], none⟩])
  (.cond (.t 7) (.seq (.region false [⟨some 2, .mov none (.k (.one (.iv (.int .i64 8)))), [], none⟩])
  (.ret)) (.skip)))
  (.seq (.region false [⟨some 8, .mov none (.t 3), [], none⟩,
    ⟨some 9, .bin .sub (.t 8) (.k (.one (.iv (.int .i64 1)))), [], none⟩,
    ⟨some 10, .blt .max [.t 9, .k (.one (.iv (.int .i64 0)))], [], none⟩,
    ⟨some 11, .bin .quo (.t 10) (.k (.one (.iv (.int .i64 7)))), [], none⟩,
    ⟨some 2, .mov none (.t 11), [], none⟩])
  (.ret))))
def v121 : VFn := ⟨1, 12, [.t 2], b121⟩

theorem c121 : chkFn Try.prog 121 v121 = true := by kernel_rfl

/- (*scholia/coder.In).raw -/
def l122_0 : VCode := .seq (.region false [⟨some 42, .bin .lss (.t 41) (.t 40), [], none⟩])
  (.seq (.cond (.t 42) (.skip) (.exit 0))
  (.seq (.block 1 (.seq (.region false [⟨some 43, .ixS 1 (.t 39) (.t 41), [], none⟩,
    ⟨some 44, .load false 1 (.t 43), [], none⟩,
    ⟨some 9, .mov none (.t 44), [], none⟩])
  (.region false [⟨some 45, .mov none (.t 7), [], none⟩,
    ⟨some 46, .bin .shl (.t 45) (.k (.one (.iv (.int .u64 8)))), [], none⟩,
    ⟨some 47, .mov none (.t 9), [], none⟩,
    ⟨some 48, .conv .u64 (.t 47), [], none⟩,
    ⟨some 49, .bin .or (.t 46) (.t 48), [], none⟩,
    ⟨some 7, .mov none (.t 49), [], none⟩])))
  (.region false [⟨some 50, .bin .add (.t 41) (.k (.one (.iv (.int .i64 1)))), [], none⟩,
    ⟨some 41, .mov none (.t 50), [], none⟩])))
def b122 : VCode := .seq (.region false [⟨some 2, .mov none (.k (.one (.iv (.int .u64 0)))), [], none⟩,
    ⟨some 3, .mov none (.k (.one (.iv (.bool false)))), [], none⟩])
  (.seq (.region false [⟨some 11, .mov none (.t 0), [], none⟩,
    ⟨some 12, .call 132 [(false, .t 11), (false, .k (.one (.iv (.int .i64 1))))], [], none⟩,
    ⟨some 10, .mov none (.t 12), [], none⟩,
    ⟨some 13, .ext 0 (.t 10), [], none⟩,
    ⟨some 14, .ext 1 (.t 10), [], none⟩,
    ⟨some 4, .mov none (.t 13), [], none⟩,
    ⟨some 5, .mov none (.t 14), [], none⟩])
  (.seq (.seq (.region false [⟨some 15, .mov none (.t 5), [], none⟩,
    ⟨some 16, .un .not (.t 15), [], none⟩])
  (.cond (.t 16) (.seq (.region false [⟨some 2, .mov none (.k (.one (.iv (.int .u64 0)))), [], none⟩,
    ⟨some 3, .mov none (.k (.one (.iv (.bool false)))), [], none⟩])
  (.ret)) (.skip)))
  (.seq (.region false [⟨some 17, .mov none (.t 4), [], none⟩,
    ⟨some 18, .ixS 1 (.t 17) (.k (.one (.iv (.int .i64 0)))), [], none⟩,
    ⟨some 19, .load false 1 (.t 18), [], none⟩,
    ⟨some 20, .un .xor (.t 19), [], none⟩,
    ⟨some 21, .call 149 [(false, .t 20)], [], none⟩,
    ⟨some 6, .mov none (.t 21), [], none⟩])
  (.seq (.region false [⟨some 7, .mov none (.k (.one (.iv (.int .u64 0)))), [], none⟩])
  (.seq (.seq (.region false [⟨some 22, .mov none (.t 6), [], none⟩,
    ⟨some 23, .bin .lss (.t 22) (.k (.one (.iv (.int .i64 8)))), [], none⟩])
  (.cond (.t 23) (.region true [⟨some 24, .mov none (.t 4), [], none⟩,
    ⟨some 25, .ixS 1 (.t 24) (.k (.one (.iv (.int .i64 0)))), [0], none⟩,
    ⟨some 26, .load false 1 (.t 25), [1], none⟩,
    ⟨some 27, .mov none (.t 6), [], none⟩,
    ⟨some 28, .bin .shr (.k (.one (.iv (.int .u8 255)))) (.t 27), [3], none⟩,
    ⟨some 29, .bin .and (.t 26) (.t 28), [4, 2], none⟩,
    ⟨some 30, .conv .u64 (.t 29), [5], none⟩,
    ⟨some 7, .mov none (.t 30), [6], none⟩]) (.skip)))
  (.seq (.region false [⟨some 32, .mov none (.t 0), [], none⟩,
    ⟨some 33, .mov none (.t 6), [], none⟩,
    ⟨some 34, .call 132 [(false, .t 32), (false, .t 33)], [], none⟩,
    ⟨some 31, .mov none (.t 34), [], none⟩,
    ⟨some 35, .ext 0 (.t 31), [], none⟩,
    ⟨some 36, .ext 1 (.t 31), [], none⟩,
    ⟨some 4, .mov none (.t 35), [], none⟩,
    ⟨some 5, .mov none (.t 36), [], none⟩])
  (.seq (.seq (.region false [⟨some 37, .mov none (.t 5), [], none⟩,
    ⟨some 38, .un .not (.t 37), [], none⟩])
  (.cond (.t 38) (.seq (.region false [⟨some 2, .mov none (.k (.one (.iv (.int .u64 0)))), [], none⟩,
    ⟨some 3, .mov none (.k (.one (.iv (.bool false)))), [], none⟩])
  (.ret)) (.skip)))
  (.seq (.seq (.region false [⟨some 39, .mov none (.t 4), [], none⟩,
    ⟨some 40, .blt .len [.t 39], [], none⟩,
    ⟨some 41, .mov none (.k (.one (.iv (.int .i64 0)))), [], none⟩])
  (.block 0 (.loop false [0, 6, 7, 39, 40, 41] l122_0)))
  (.seq (.seq (.region false [⟨some 51, .mov none (.t 7), [], none⟩,
    ⟨some 52, .call 121 [(false, .t 51)], [], none⟩,
    ⟨some 53, .mov none (.t 6), [], none⟩,
    ⟨some 54, .bin .neq (.t 52) (.t 53), [], none⟩])
  (.cond (.t 54) (.seq (.region false [⟨some 55, .mov none (.t 0), [], none⟩,
    ⟨some 56, .call 110 [(false, .t 55), (false, .k (.one (.iv (.int .i64 3))))], [], none⟩])
  (.seq (.region false [⟨some 2, .mov none (.k (.one (.iv (.int .u64 0)))), [], none⟩,
    ⟨some 3, .mov none (.k (.one (.iv (.bool false)))), [], none⟩])
  (.ret))) (.skip)))
  (.seq (.region false [⟨some 57, .mov none (.t 7), [], none⟩,
    ⟨some 2, .mov none (.t 57), [], none⟩,
    ⟨some 3, .mov none (.k (.one (.iv (.bool true)))), [], none⟩])
  (.ret)))))))))))
def v122 : VFn := ⟨1, 58, [.t 2, .t 3], b122⟩

theorem c122 : chkFn Try.prog 122 v122 = true := by kernel_rfl

/- scholia/scholiaref01.join -/
def b123 : VCode := .seq (.region false [⟨some 4, .mov none (.k (.one (.iv (.sl true 0 [])))), [], none⟩])
  (.seq (.region false [⟨some 5, .mov none (.k (.one (.iv (.sl true 0 [])))), [], none⟩])
  (.seq (.region false [⟨some 6, .mov none (.t 5), [], none⟩,
    ⟨some 7, .mov none (.t 0), [], none⟩,
    ⟨some 8, .blt (.append 1 1) [.t 6, .t 7], [], none⟩,
    ⟨some 5, .mov none (.t 8), [], none⟩])
  (.seq (.region false [⟨some 9, .mov none (.t 5), [], none⟩,
    ⟨some 10, .mov none (.t 1), [], none⟩,
    ⟨some 11, .blt (.append 1 1) [.t 9, .t 10], [], none⟩,
    ⟨some 4, .mov none (.t 11), [], none⟩])
  (.ret))))
def v123 : VFn := ⟨2, 12, [.t 4], b123⟩

theorem c123 : chkFn Try.prog 123 v123 = true := by kernel_rfl

/- scholia/scholiaref01.Bytes -/
def l124_0 : VCode := .seq (.region false [⟨some 10, .bin .lss (.t 9) (.k (.one (.iv (.int .i64 9)))), [], none⟩])
  (.seq (.cond (.t 10) (.skip) (.exit 0))
  (.seq (.block 1 (.seq (.region false [⟨some 11, .mov none (.t 9), [], none⟩,
    ⟨some 4, .mov none (.t 11), [], none⟩])
  (.seq (.region false [⟨some 12, .mov none (.t 4), [], none⟩,
    ⟨some 13, .bin .lss (.t 12) (.k (.one (.iv (.int .i64 8)))), [], none⟩,
    ⟨some 14, .mov none (.t 13), [], none⟩,
    ⟨some 15, .mov none (.t 0), [], some (14, true)⟩,
    ⟨some 16, .mov none (.t 4), [], some (14, true)⟩,
    ⟨some 17, .bin .mul (.k (.one (.iv (.int .i64 7)))) (.t 16), [], some (14, true)⟩,
    ⟨some 18, .bin .add (.k (.one (.iv (.int .i64 7)))) (.t 17), [], some (14, true)⟩,
    ⟨some 19, .bin .shr (.t 15) (.t 18), [], some (14, true)⟩,
    ⟨some 20, .bin .neq (.t 19) (.k (.one (.iv (.int .u64 0)))), [], some (14, true)⟩,
    ⟨some 21, .pick (.t 14) (.t 20) (.k (.one (.iv (.bool false)))), [], none⟩])
  (.cond (.t 21) (.region false [⟨some 22, .mov none (.t 4), [], none⟩,
    ⟨some 23, .bin .add (.t 22) (.k (.one (.iv (.int .i64 1)))), [], none⟩,
    ⟨some 3, .mov none (.t 23), [], none⟩]) (.skip)))))
  (.region false [⟨some 24, .bin .add (.t 9) (.k (.one (.iv (.int .i64 1)))), [], none⟩,
    ⟨some 9, .mov none (.t 24), [], none⟩])))
def l124_1 : VCode := .seq (.region false [⟨some 27, .bin .lss (.t 26) (.t 25), [], none⟩])
  (.seq (.cond (.t 27) (.skip) (.exit 2))
  (.seq (.block 3 (.seq (.region false [⟨some 28, .mov none (.t 26), [], none⟩,
    ⟨some 6, .mov none (.t 28), [], none⟩])
  (.region false [⟨some 29, .mov none (.t 5), [], none⟩,
    ⟨some 30, .mov none (.t 6), [], none⟩,
    ⟨some 31, .bin .shr (.k (.one (.iv (.int .i64 128)))) (.t 30), [], none⟩,
    ⟨some 32, .bin .add (.t 29) (.t 31), [], none⟩,
    ⟨some 5, .mov none (.t 32), [], none⟩])))
  (.region false [⟨some 33, .bin .add (.t 26) (.k (.one (.iv (.int .i64 1)))), [], none⟩,
    ⟨some 26, .mov none (.t 33), [], none⟩])))
def l124_2 : VCode := .seq (.region false [⟨some 48, .bin .lss (.t 47) (.t 46), [], none⟩])
  (.seq (.cond (.t 48) (.skip) (.exit 4))
  (.seq (.block 5 (.seq (.region false [⟨some 49, .mov none (.t 47), [], none⟩,
    ⟨some 8, .mov none (.t 49), [], none⟩])
  (.region false [⟨some 50, .mov none (.t 7), [], none⟩,
    ⟨some 51, .mov none (.t 0), [], none⟩,
    ⟨some 52, .mov none (.t 3), [], none⟩,
    ⟨some 53, .bin .sub (.t 52) (.k (.one (.iv (.int .i64 1)))), [], none⟩,
    ⟨some 54, .mov none (.t 8), [], none⟩,
    ⟨some 55, .bin .sub (.t 53) (.t 54), [], none⟩,
    ⟨some 56, .bin .mul (.k (.one (.iv (.int .i64 8)))) (.t 55), [], none⟩,
    ⟨some 57, .bin .shr (.t 51) (.t 56), [], none⟩,
    ⟨some 58, .conv .u8 (.t 57), [], none⟩,
    ⟨some 59, .mks false 1 [.t 58], [], none⟩,
    ⟨some 60, .blt (.append 1 1) [.t 50, .t 59], [], none⟩,
    ⟨some 7, .mov none (.t 60), [], none⟩])))
  (.region false [⟨some 61, .bin .add (.t 47) (.k (.one (.iv (.int .i64 1)))), [], none⟩,
    ⟨some 47, .mov none (.t 61), [], none⟩])))
def b124 : VCode := .seq (.region false [⟨some 2, .mov none (.k (.one (.iv (.sl true 0 [])))), [], none⟩])
  (.seq (.region false [⟨some 3, .mov none (.k (.one (.iv (.int .i64 0)))), [], none⟩])
  (.seq (.seq (.region false [⟨some 9, .mov none (.k (.one (.iv (.int .i64 0)))), [], none⟩])
  (.block 0 (.loop false [0, 3, 9] l124_0)))
  (.seq (.region false [⟨some 5, .mov none (.k (.one (.iv (.int .i64 0)))), [], none⟩])
  (.seq (.seq (.region false [⟨some 25, .mov none (.t 3), [], none⟩,
    ⟨some 26, .mov none (.k (.one (.iv (.int .i64 0)))), [], none⟩])
  (.block 2 (.loop false [0, 3, 5, 25, 26] l124_1)))
  (.seq (.seq (.region false [⟨some 34, .mov none (.t 3), [], none⟩,
    ⟨some 35, .bin .lss (.t 34) (.k (.one (.iv (.int .i64 8)))), [], none⟩])
  (.cond (.t 35) (.region false [⟨some 36, .mov none (.t 5), [], none⟩,
    ⟨some 37, .mov none (.t 0), [], none⟩,
    ⟨some 38, .mov none (.t 3), [], none⟩,
    ⟨some 39, .bin .mul (.k (.one (.iv (.int .i64 8)))) (.t 38), [], none⟩,
    ⟨some 40, .bin .shr (.t 37) (.t 39), [], none⟩,
    ⟨some 41, .conv .i64 (.t 40), [], none⟩,
    ⟨some 42, .bin .add (.t 36) (.t 41), [], none⟩,
    ⟨some 5, .mov none (.t 42), [], none⟩]) (.skip)))
  (.seq (.region false [⟨some 43, .mov none (.t 5), [], none⟩,
    ⟨some 44, .conv .u8 (.t 43), [], none⟩,
    ⟨some 45, .mks true 1 [.t 44], [], none⟩,
    ⟨some 7, .mov none (.t 45), [], none⟩])
  (.seq (.seq (.region false [⟨some 46, .mov none (.t 3), [], none⟩,
    ⟨some 47, .mov none (.k (.one (.iv (.int .i64 0)))), [], none⟩])
  (.block 4 (.loop false [0, 3, 7, 46, 47] l124_2)))
  (.seq (.region false [⟨some 62, .mov none (.t 7), [], none⟩,
    ⟨some 2, .mov none (.t 62), [], none⟩])
  (.ret)))))))))
def v124 : VFn := ⟨1, 63, [.t 2], b124⟩

theorem c124 : chkFn Try.prog 124 v124 = true := by kernel_rfl

/- (*scholia/scholiaref01.In).any -/
def l125_0 : VCode := .seq (.region false [⟨some 16, .bin .lss (.t 15) (.k (.one (.iv (.int .i64 8)))), [], none⟩])
  (.seq (.cond (.t 16) (.skip) (.exit 0))
  (.seq (.block 1 (.seq (.region false [⟨some 17, .mov none (.t 15), [], none⟩,
    ⟨some 4, .mov none (.t 17), [], none⟩])
  (.seq (.region true [⟨some 18, .mov none (.t 3), [], none⟩,
    ⟨some 19, .mov none (.t 4), [], none⟩,
    ⟨some 20, .bin .eql (.t 18) (.t 19), [1, 0], none⟩,
    ⟨some 21, .mov none (.t 20), [2], none⟩,
    ⟨some 22, .mov none (.t 0), [3], some (21, true)⟩,
    ⟨some 23, .nilc (.t 22), [4], some (21, true)⟩,
    ⟨some 24, .fad 0 (.t 23), [5], some (21, true)⟩,
    ⟨some 25, .load false 1 (.t 24), [6], some (21, true)⟩,
    ⟨some 26, .ixS 1 (.t 25) (.k (.one (.iv (.int .i64 0)))), [7], some (21, true)⟩,
    ⟨some 27, .load false 1 (.t 26), [8], some (21, true)⟩,
    ⟨some 28, .mov none (.t 4), [3], some (21, true)⟩,
    ⟨some 29, .bin .shr (.k (.one (.iv (.int .u8 128)))) (.t 28), [10], some (21, true)⟩,
    ⟨some 30, .bin .and (.t 27) (.t 29), [11, 9], some (21, true)⟩,
    ⟨some 31, .bin .neq (.t 30) (.k (.one (.iv (.int .u8 0)))), [12], some (21, true)⟩,
    ⟨some 32, .pick (.t 21) (.t 31) (.k (.one (.iv (.bool false)))), [13], none⟩])
  (.cond (.t 32) (.region false [⟨some 33, .mov none (.t 4), [], none⟩,
    ⟨some 34, .bin .add (.t 33) (.k (.one (.iv (.int .i64 1)))), [], none⟩,
    ⟨some 3, .mov none (.t 34), [], none⟩]) (.skip)))))
  (.region false [⟨some 35, .bin .add (.t 15) (.k (.one (.iv (.int .i64 1)))), [], none⟩,
    ⟨some 15, .mov none (.t 35), [], none⟩])))
def l125_1 : VCode := .seq (.region false [⟨some 60, .bin .lss (.t 59) (.t 58), [], none⟩])
  (.seq (.cond (.t 60) (.skip) (.exit 2))
  (.seq (.block 3 (.seq (.region false [⟨some 61, .mov none (.t 59), [], none⟩,
    ⟨some 6, .mov none (.t 61), [], none⟩])
  (.region false [⟨some 62, .mov none (.t 5), [], none⟩,
    ⟨some 63, .bin .mul (.t 62) (.k (.one (.iv (.int .u64 256)))), [], none⟩,
    ⟨some 64, .mov none (.t 0), [], none⟩,
    ⟨some 65, .nilc (.t 64), [], none⟩,
    ⟨some 66, .fad 0 (.t 65), [], none⟩,
    ⟨some 67, .load false 1 (.t 66), [], none⟩,
    ⟨some 68, .mov none (.t 6), [], none⟩,
    ⟨some 69, .bin .add (.t 68) (.k (.one (.iv (.int .i64 1)))), [], none⟩,
    ⟨some 70, .ixS 1 (.t 67) (.t 69), [], none⟩,
    ⟨some 71, .load false 1 (.t 70), [], none⟩,
    ⟨some 72, .conv .u64 (.t 71), [], none⟩,
    ⟨some 73, .bin .add (.t 63) (.t 72), [], none⟩,
    ⟨some 5, .mov none (.t 73), [], none⟩])))
  (.region false [⟨some 74, .bin .add (.t 59) (.k (.one (.iv (.int .i64 1)))), [], none⟩,
    ⟨some 59, .mov none (.t 74), [], none⟩])))
def b125 : VCode := .seq (.region false [⟨some 2, .mov none (.k (.one (.iv (.int .u64 0)))), [], none⟩])
  (.seq (.seq (.region false [⟨some 7, .mov none (.t 0), [], none⟩,
    ⟨some 8, .nilc (.t 7), [], none⟩,
    ⟨some 9, .fad 0 (.t 8), [], none⟩,
    ⟨some 10, .load false 1 (.t 9), [], none⟩,
    ⟨some 11, .blt .len [.t 10], [], none⟩,
    ⟨some 12, .bin .eql (.t 11) (.k (.one (.iv (.int .i64 0)))), [], none⟩])
  (.cond (.t 12) (.seq (.region false [⟨some 13, .mov none (.t 0), [], none⟩,
    ⟨some 14, .call 126 [(false, .t 13), (false, .k (.one (.iv (.int .i64 4))))], [], none⟩])
  (.seq (.region false [⟨some 2, .mov none (.k (.one (.iv (.int .u64 0)))), [], none⟩])
  (.ret))) (.skip)))
  (.seq (.region false [⟨some 3, .mov none (.k (.one (.iv (.int .i64 0)))), [], none⟩])
  (.seq (.seq (.region false [⟨some 15, .mov none (.k (.one (.iv (.int .i64 0)))), [], none⟩])
  (.block 0 (.loop false [0, 3, 15] l125_0)))
  (.seq (.seq (.region false [⟨some 36, .mov none (.t 0), [], none⟩,
    ⟨some 37, .nilc (.t 36), [], none⟩,
    ⟨some 38, .fad 0 (.t 37), [], none⟩,
    ⟨some 39, .load false 1 (.t 38), [], none⟩,
    ⟨some 40, .blt .len [.t 39], [], none⟩,
    ⟨some 41, .mov none (.t 3), [], none⟩,
    ⟨some 42, .bin .add (.t 41) (.k (.one (.iv (.int .i64 1)))), [], none⟩,
    ⟨some 43, .bin .lss (.t 40) (.t 42), [], none⟩])
  (.cond (.t 43) (.seq (.region false [⟨some 44, .mov none (.t 0), [], none⟩,
    ⟨some 45, .call 126 [(false, .t 44), (false, .k (.one (.iv (.int .i64 4))))], [], none⟩])
  (.seq (.region false [⟨some 2, .mov none (.k (.one (.iv (.int .u64 0)))), [], none⟩])
  (.ret))) (.skip)))
  (.seq (.region false [⟨some 5, .mov none (.k (.one (.iv (.int .u64 0)))), [], none⟩])
  (.seq (.seq (.region false [⟨some 46, .mov none (.t 3), [], none⟩,
    ⟨some 47, .bin .lss (.t 46) (.k (.one (.iv (.int .i64 8)))), [], none⟩])
  (.cond (.t 47) (.region true [⟨some 48, .mov none (.t 0), [], none⟩,
    ⟨some 49, .nilc (.t 48), [0], none⟩,
    ⟨some 50, .fad 0 (.t 49), [1], none⟩,
    ⟨some 51, .load false 1 (.t 50), [2], none⟩,
    ⟨some 52, .ixS 1 (.t 51) (.k (.one (.iv (.int .i64 0)))), [3], none⟩,
    ⟨some 53, .load false 1 (.t 52), [4], none⟩,
    ⟨some 54, .conv .u64 (.t 53), [5], none⟩,
    ⟨some 55, .mov none (.t 3), [], none⟩,
    ⟨some 56, .bin .shr (.k (.one (.iv (.int .u64 128)))) (.t 55), [7], none⟩,
    ⟨some 57, .bin .rem (.t 54) (.t 56), [8, 6], none⟩,
    ⟨some 5, .mov none (.t 57), [9], none⟩]) (.skip)))
  (.seq (.seq (.region false [⟨some 58, .mov none (.t 3), [], none⟩,
    ⟨some 59, .mov none (.k (.one (.iv (.int .i64 0)))), [], none⟩])
  (.block 2 (.loop false [0, 3, 5, 58, 59] l125_1)))
  (.seq (.seq (.region false [⟨some 75, .mov none (.t 5), [], none⟩,
    ⟨some 76, .call 124 [(false, .t 75)], [], none⟩,
    ⟨some 77, .blt .len [.t 76], [], none⟩,
    ⟨some 78, .mov none (.t 3), [], none⟩,
    ⟨some 79, .bin .add (.t 78) (.k (.one (.iv (.int .i64 1)))), [], none⟩,
    ⟨some 80, .bin .neq (.t 77) (.t 79), [], none⟩])
  (.cond (.t 80) (.seq (.region false [⟨some 81, .mov none (.t 0), [], none⟩,
    ⟨some 82, .call 126 [(false, .t 81), (false, .k (.one (.iv (.int .i64 3))))], [], none⟩])
  (.seq (.region false [⟨some 2, .mov none (.k (.one (.iv (.int .u64 0)))), [], none⟩])
  (.ret))) (.skip)))
  (.seq (.region false [⟨some 83, .mov none (.t 0), [], none⟩,
    ⟨some 84, .mov none (.t 0), [], none⟩,
    ⟨some 85, .nilc (.t 84), [], none⟩,
    ⟨some 86, .fad 0 (.t 85), [], none⟩,
    ⟨some 87, .load false 1 (.t 86), [], none⟩,
    ⟨some 88, .mov none (.t 3), [], none⟩,
    ⟨some 89, .bin .add (.t 88) (.k (.one (.iv (.int .i64 1)))), [], none⟩,
    ⟨some 90, .slS 1 (.t 87) (some (.t 89)) none none, [], none⟩,
    ⟨some 91, .nilc (.t 83), [], none⟩,
    ⟨some 92, .fad 0 (.t 91), [], none⟩,
    ⟨none, .store 1 (.t 92) (.t 90), [], none⟩])
  (.seq (.region false [⟨some 93, .mov none (.t 5), [], none⟩,
    ⟨some 2, .mov none (.t 93), [], none⟩])
  (.ret)))))))))))
def v125 : VFn := ⟨1, 94, [.t 2], b125⟩

theorem c125 : chkFn Try.prog 125 v125 = true := by kernel_rfl

/- (*scholia/scholiaref01.In).Fail -/
def b126 : VCode := .seq (.region false [⟨some 4, .mov none (.t 0), [], none⟩,
    ⟨some 5, .nilc (.t 4), [], none⟩,
    ⟨some 6, .fad 1 (.t 5), [], none⟩,
    ⟨some 7, .load false 1 (.t 6), [], none⟩,
    ⟨some 8, .bin .eql (.t 7) (.k (.one (.iv (.int .i64 0)))), [], none⟩,
    ⟨some 9, .mov none (.t 8), [], none⟩,
    ⟨some 10, .mov none (.t 1), [], some (9, true)⟩,
    ⟨some 11, .bin .neq (.t 10) (.k (.one (.iv (.int .i64 0)))), [], some (9, true)⟩,
    ⟨some 12, .pick (.t 9) (.t 11) (.k (.one (.iv (.bool false)))), [], none⟩])
  (.cond (.t 12) (.seq (.region false [⟨some 13, .mov none (.t 0), [], none⟩,
    ⟨some 14, .mov none (.t 1), [], none⟩,
    ⟨some 15, .nilc (.t 13), [], none⟩,
    ⟨some 16, .fad 1 (.t 15), [], none⟩,
    ⟨none, .store 1 (.t 16) (.t 14), [], none⟩])
  (.region false [⟨some 17, .mov none (.t 0), [], none⟩,
    ⟨some 18, .nilc (.t 17), [], none⟩,
    ⟨some 19, .fad 0 (.t 18), [], none⟩,
    ⟨none, .store 1 (.t 19) (.k (.one (.iv (.sl true 0 [])))), [], none⟩])) (.skip))
def v126 : VFn := ⟨2, 20, [], b126⟩

theorem c126 : chkFn Try.prog 126 v126 = true := by kernel_rfl

/- scholia/docs.Name -/
def l129_0 : VCode := .seq (.region false [⟨some 16, .bin .lss (.t 15) (.t 14), [], none⟩])
  (.seq (.cond (.t 16) (.skip) (.exit 0))
  (.seq (.block 1 (.seq (.region false [⟨some 17, .ixS 1 (.t 13) (.t 15), [], none⟩,
    ⟨some 18, .load false 1 (.t 17), [], none⟩,
    ⟨some 4, .mov none (.t 18), [], none⟩])
  (.seq (.region false [⟨some 19, .mov none (.t 4), [], none⟩,
    ⟨some 20, .bin .lss (.t 19) (.k (.one (.iv (.int .u8 97)))), [], none⟩,
    ⟨some 21, .mov none (.t 20), [], none⟩,
    ⟨some 22, .mov none (.t 4), [], some (21, false)⟩,
    ⟨some 23, .bin .gtr (.t 22) (.k (.one (.iv (.int .u8 122)))), [], some (21, false)⟩,
    ⟨some 24, .pick (.t 21) (.k (.one (.iv (.bool true)))) (.t 23), [], none⟩,
    ⟨some 25, .mov none (.t 24), [], none⟩,
    ⟨some 26, .mov none (.t 4), [], some (25, true)⟩,
    ⟨some 27, .bin .lss (.t 26) (.k (.one (.iv (.int .u8 48)))), [], some (25, true)⟩,
    ⟨some 28, .mov none (.t 27), [], some (25, true)⟩,
    ⟨some 29, .mov none (.t 4), [], some (28, false)⟩,
    ⟨some 30, .bin .gtr (.t 29) (.k (.one (.iv (.int .u8 57)))), [], some (28, false)⟩,
    ⟨some 31, .pick (.t 28) (.k (.one (.iv (.bool true)))) (.t 30), [], some (25, true)⟩,
    ⟨some 32, .pick (.t 25) (.t 31) (.k (.one (.iv (.bool false)))), [], none⟩,
    ⟨some 33, .mov none (.t 32), [], none⟩,
    ⟨some 34, .mov none (.t 4), [], some (33, true)⟩,
    ⟨some 35, .bin .neq (.t 34) (.k (.one (.iv (.int .u8 45)))), [], some (33, true)⟩,
    ⟨some 36, .pick (.t 33) (.t 35) (.k (.one (.iv (.bool false)))), [], none⟩])
  (.cond (.t 36) (.seq (.region false [⟨some 2, .mov none (.k (.one (.iv (.bool false)))), [], none⟩])
  (.ret)) (.skip)))))
  (.region false [⟨some 37, .bin .add (.t 15) (.k (.one (.iv (.int .i64 1)))), [], none⟩,
    ⟨some 15, .mov none (.t 37), [], none⟩])))
def b129 : VCode := .seq (.region false [⟨some 2, .mov none (.k (.one (.iv (.bool false)))), [], none⟩])
  (.seq (.seq (.region false [⟨some 5, .mov none (.t 0), [], none⟩,
    ⟨some 6, .bin .eql (.t 5) (.k (.one (.iv (.str ⟨#[]⟩)))), [], none⟩,
    ⟨some 7, .mov none (.t 6), [], none⟩,
    ⟨some 8, .mov none (.t 0), [], some (7, false)⟩,
    ⟨some 9, .blt .lenS [.t 8], [], some (7, false)⟩,
    ⟨some 10, .bin .gtr (.t 9) (.k (.one (.iv (.int .i64 12)))), [], some (7, false)⟩,
    ⟨some 11, .pick (.t 7) (.k (.one (.iv (.bool true)))) (.t 10), [], none⟩])
  (.cond (.t 11) (.seq (.region false [⟨some 2, .mov none (.k (.one (.iv (.bool false)))), [], none⟩])
  (.ret)) (.skip)))
  (.seq (.seq (.region false [⟨some 12, .mov none (.t 0), [], none⟩,
    ⟨some 13, .s2b (.t 12), [], none⟩,
    ⟨some 14, .blt .len [.t 13], [], none⟩,
    ⟨some 15, .mov none (.k (.one (.iv (.int .i64 0)))), [], none⟩])
  (.block 0 (.loop false [13, 14, 15] l129_0)))
  (.seq (.region false [⟨some 2, .mov none (.k (.one (.iv (.bool true)))), [], none⟩])
  (.ret))))
def v129 : VFn := ⟨1, 38, [.t 2], b129⟩

theorem c129 : chkFn Try.prog 129 v129 = true := by kernel_rfl

/- scholia/docs.gone -/
def l130_0 : VCode := .seq (.region false [⟨some 10, .bin .lss (.t 9) (.t 8), [], none⟩])
  (.seq (.cond (.t 10) (.skip) (.exit 0))
  (.seq (.block 1 (.seq (.region false [⟨some 11, .mov none (.t 9), [], none⟩,
    ⟨some 12, .ixS 2 (.t 7) (.t 9), [], none⟩,
    ⟨some 13, .load true 2 (.t 12), [], none⟩,
    ⟨some 6, .new [.iv (.int .i64 0), .iv (.int .i64 0)], [], none⟩,
    ⟨some 5, .mov none (.t 11), [], none⟩,
    ⟨none, .store 2 (.t 6) (.t 13), [], none⟩])
  (.seq (.region true [⟨some 14, .load true 2 (.t 6), [], none⟩,
    ⟨some 15, .call 18 [(false, .t 14)], [0], none⟩,
    ⟨some 16, .un .not (.t 15), [1], none⟩,
    ⟨some 17, .mov none (.t 16), [2], none⟩,
    ⟨some 18, .load true 2 (.t 6), [3], some (17, false)⟩,
    ⟨some 19, .load true 2 (.t 2), [3], some (17, false)⟩,
    ⟨some 20, .eqa .eql ([.int] ++ [.int]) (.t 18) (.t 19), [5, 4], some (17, false)⟩,
    ⟨some 21, .pick (.t 17) (.k (.one (.iv (.bool true)))) (.t 20), [6], none⟩,
    ⟨some 22, .mov none (.t 21), [7], none⟩,
    ⟨some 23, .mov none (.t 5), [8], some (22, false)⟩,
    ⟨some 24, .bin .gtr (.t 23) (.k (.one (.iv (.int .i64 0)))), [9], some (22, false)⟩,
    ⟨some 25, .mov none (.t 24), [10], some (22, false)⟩,
    ⟨some 26, .mov none (.t 1), [11], some (25, true)⟩,
    ⟨some 27, .mov none (.t 5), [11], some (25, true)⟩,
    ⟨some 28, .bin .sub (.t 27) (.k (.one (.iv (.int .i64 1)))), [13], some (25, true)⟩,
    ⟨some 29, .ixS 2 (.t 26) (.t 28), [14, 12], some (25, true)⟩,
    ⟨some 30, .load true 2 (.t 29), [15], some (25, true)⟩,
    ⟨some 31, .load true 2 (.t 6), [11], some (25, true)⟩,
    ⟨some 32, .call 17 [(false, .t 30), (false, .t 31)], [17, 16], some (25, true)⟩,
    ⟨some 33, .bin .geq (.t 32) (.k (.one (.iv (.int .i64 0)))), [18], some (25, true)⟩,
    ⟨some 34, .pick (.t 25) (.t 33) (.k (.one (.iv (.bool false)))), [19], some (22, false)⟩,
    ⟨some 35, .pick (.t 22) (.k (.one (.iv (.bool true)))) (.t 34), [20], none⟩])
  (.cond (.t 35) (.seq (.region false [⟨some 4, .mov none (.k (.one (.iv (.bool false)))), [], none⟩])
  (.ret)) (.skip)))))
  (.region false [⟨some 36, .bin .add (.t 9) (.k (.one (.iv (.int .i64 1)))), [], none⟩,
    ⟨some 9, .mov none (.t 36), [], none⟩])))
def b130 : VCode := .seq (.region false [⟨some 2, .box (.t 0), [], none⟩,
    ⟨some 4, .mov none (.k (.one (.iv (.bool false)))), [], none⟩])
  (.seq (.seq (.region false [⟨some 7, .mov none (.t 1), [], none⟩,
    ⟨some 8, .blt .len [.t 7], [], none⟩,
    ⟨some 9, .mov none (.k (.one (.iv (.int .i64 0)))), [], none⟩])
  (.block 0 (.loop false [1, 2, 7, 8, 9] l130_0)))
  (.seq (.region false [⟨some 37, .mov none (.t 1), [], none⟩,
    ⟨some 38, .blt .len [.t 37], [], none⟩,
    ⟨some 39, .bin .leq (.t 38) (.k (.one (.iv (.int .i64 120)))), [], none⟩,
    ⟨some 4, .mov none (.t 39), [], none⟩])
  (.ret)))
def v130 : VFn := ⟨2, 40, [.t 4], b130⟩

theorem c130 : chkFn Try.prog 130 v130 = true := by kernel_rfl

/- scholia/docs.Text -/
def b131 : VCode := .seq (.region false [⟨some 4, .mov none (.k (.one (.iv (.int .i64 0)))), [], none⟩])
  (.seq (.block 0 (.seq (.region false [⟨some 6, .mov none (.t 0), [], none⟩,
    ⟨some 7, .bin .lss (.t 6) (.k (.one (.iv (.int .i64 0)))), [], none⟩,
    ⟨some 8, .mov none (.t 7), [], none⟩,
    ⟨some 9, .mov none (.t 0), [], some (8, false)⟩,
    ⟨some 10, .bin .gtr (.t 9) (.k (.one (.iv (.int .i64 4)))), [], some (8, false)⟩,
    ⟨some 11, .pick (.t 8) (.k (.one (.iv (.bool true)))) (.t 10), [], none⟩,
    ⟨some 12, .mov none (.t 11), [], none⟩,
    ⟨some 13, .mov none (.t 0), [], some (12, false)⟩,
    ⟨some 14, .bin .eql (.t 13) (.k (.one (.iv (.int .i64 0)))), [], some (12, false)⟩,
    ⟨some 15, .mov none (.t 14), [], some (12, false)⟩,
    ⟨some 16, .mov none (.t 1), [], some (15, true)⟩,
    ⟨some 17, .bin .neq (.t 16) (.k (.one (.iv (.str ⟨#[]⟩)))), [], some (15, true)⟩,
    ⟨some 18, .pick (.t 15) (.t 17) (.k (.one (.iv (.bool false)))), [], some (12, false)⟩,
    ⟨some 19, .pick (.t 12) (.k (.one (.iv (.bool true)))) (.t 18), [], none⟩,
    ⟨some 5, .mov none (.t 19), [], none⟩])
  (.cond (.t 5) (.seq (.region false [⟨some 4, .mov none (.k (.one (.iv (.int .i64 1)))), [], none⟩])
  (.ret)) (.seq (.region false [⟨some 21, .mov none (.t 1), [], none⟩,
    ⟨some 22, .blt .lenS [.t 21], [], none⟩,
    ⟨some 23, .bin .gtr (.t 22) (.k (.one (.iv (.int .i64 160)))), [], none⟩,
    ⟨some 20, .mov none (.t 23), [], none⟩])
  (.cond (.t 20) (.seq (.region false [⟨some 4, .mov none (.k (.one (.iv (.int .i64 5)))), [], none⟩])
  (.ret)) (.seq (.region false [⟨some 25, .mov none (.t 1), [], none⟩,
    ⟨some 26, .call 150 [(false, .t 25)], [], none⟩,
    ⟨some 27, .un .not (.t 26), [], none⟩,
    ⟨some 24, .mov none (.t 27), [], none⟩])
  (.cond (.t 24) (.seq (.region false [⟨some 4, .mov none (.k (.one (.iv (.int .i64 7)))), [], none⟩])
  (.ret)) (.skip))))))))
  (.seq (.region false [⟨some 4, .mov none (.k (.one (.iv (.int .i64 0)))), [], none⟩])
  (.ret)))
def v131 : VFn := ⟨2, 28, [.t 4], b131⟩

theorem c131 : chkFn Try.prog 131 v131 = true := by kernel_rfl

/- (*scholia/coder.In).take -/
def b132 : VCode := .seq (.region false [⟨some 4, .mov none (.k (.one (.iv (.sl true 0 [])))), [], none⟩,
    ⟨some 5, .mov none (.k (.one (.iv (.bool false)))), [], none⟩])
  (.seq (.seq (.region false [⟨some 7, .mov none (.t 0), [], none⟩,
    ⟨some 8, .eqs .eql .ptr (.t 7) (.k (.one (.iv .nilp))), [], none⟩,
    ⟨some 9, .mov none (.t 8), [], none⟩,
    ⟨some 10, .mov none (.t 0), [], some (9, false)⟩,
    ⟨some 11, .nilc (.t 10), [], some (9, false)⟩,
    ⟨some 12, .fad 2 (.t 11), [], some (9, false)⟩,
    ⟨some 13, .load false 1 (.t 12), [], some (9, false)⟩,
    ⟨some 14, .un .not (.t 13), [], some (9, false)⟩,
    ⟨some 15, .pick (.t 9) (.k (.one (.iv (.bool true)))) (.t 14), [], none⟩,
    ⟨some 16, .mov none (.t 15), [], none⟩,
    ⟨some 17, .mov none (.t 0), [], some (16, false)⟩,
    ⟨some 18, .nilc (.t 17), [], some (16, false)⟩,
    ⟨some 19, .fad 1 (.t 18), [], some (16, false)⟩,
    ⟨some 20, .load false 1 (.t 19), [], some (16, false)⟩,
    ⟨some 21, .bin .neq (.t 20) (.k (.one (.iv (.int .i64 0)))), [], some (16, false)⟩,
    ⟨some 22, .pick (.t 16) (.k (.one (.iv (.bool true)))) (.t 21), [], none⟩])
  (.cond (.t 22) (.seq (.region false [⟨some 4, .mov none (.k (.one (.iv (.sl true 0 [])))), [], none⟩,
    ⟨some 5, .mov none (.k (.one (.iv (.bool false)))), [], none⟩])
  (.ret)) (.skip)))
  (.seq (.seq (.region false [⟨some 23, .mov none (.t 1), [], none⟩,
    ⟨some 24, .mov none (.t 0), [], none⟩,
    ⟨some 25, .nilc (.t 24), [], none⟩,
    ⟨some 26, .fad 0 (.t 25), [], none⟩,
    ⟨some 27, .load false 1 (.t 26), [], none⟩,
    ⟨some 28, .blt .len [.t 27], [], none⟩,
    ⟨some 29, .bin .gtr (.t 23) (.t 28), [], none⟩])
  (.cond (.t 29) (.seq (.region false [⟨some 30, .mov none (.t 0), [], none⟩,
    ⟨some 31, .call 110 [(false, .t 30), (false, .k (.one (.iv (.int .i64 4))))], [], none⟩])
  (.seq (.region false [⟨some 4, .mov none (.k (.one (.iv (.sl true 0 [])))), [], none⟩,
    ⟨some 5, .mov none (.k (.one (.iv (.bool false)))), [], none⟩])
  (.ret))) (.skip)))
  (.seq (.region false [⟨some 32, .mov none (.t 0), [], none⟩,
    ⟨some 33, .nilc (.t 32), [], none⟩,
    ⟨some 34, .fad 0 (.t 33), [], none⟩,
    ⟨some 35, .load false 1 (.t 34), [], none⟩,
    ⟨some 36, .mov none (.t 1), [], none⟩,
    ⟨some 37, .mov none (.t 1), [], none⟩,
    ⟨some 38, .slS 1 (.t 35) none (some (.t 36)) (some (.t 37)), [], none⟩,
    ⟨some 6, .mov none (.t 38), [], none⟩])
  (.seq (.region false [⟨some 39, .mov none (.t 0), [], none⟩,
    ⟨some 40, .mov none (.t 0), [], none⟩,
    ⟨some 41, .nilc (.t 40), [], none⟩,
    ⟨some 42, .fad 0 (.t 41), [], none⟩,
    ⟨some 43, .load false 1 (.t 42), [], none⟩,
    ⟨some 44, .mov none (.t 1), [], none⟩,
    ⟨some 45, .slS 1 (.t 43) (some (.t 44)) none none, [], none⟩,
    ⟨some 46, .nilc (.t 39), [], none⟩,
    ⟨some 47, .fad 0 (.t 46), [], none⟩,
    ⟨none, .store 1 (.t 47) (.t 45), [], none⟩])
  (.seq (.region false [⟨some 48, .mov none (.t 6), [], none⟩,
    ⟨some 4, .mov none (.t 48), [], none⟩,
    ⟨some 5, .mov none (.k (.one (.iv (.bool true)))), [], none⟩])
  (.ret))))))
def v132 : VFn := ⟨2, 49, [.t 4, .t 5], b132⟩

theorem c132 : chkFn Try.prog 132 v132 = true := by kernel_rfl

/- scholia/scholiaref12.Check -/
def l133_0 : VCode := .seq (.region false [⟨some 35, .bin .lss (.t 34) (.t 33), [], none⟩])
  (.seq (.cond (.t 35) (.skip) (.exit 0))
  (.seq (.block 1 (.seq (.region false [⟨some 36, .mov none (.t 34), [], none⟩,
    ⟨some 37, .ixS 2 (.t 32) (.t 34), [], none⟩,
    ⟨some 38, .load true 2 (.t 37), [], none⟩,
    ⟨some 4, .new [.iv (.int .i64 0), .iv (.int .i64 0)], [], none⟩,
    ⟨some 3, .mov none (.t 36), [], none⟩,
    ⟨none, .store 2 (.t 4) (.t 38), [], none⟩])
  (.seq (.region true [⟨some 39, .load true 2 (.t 4), [], none⟩,
    ⟨some 40, .call 19 [(false, .t 39)], [0], none⟩,
    ⟨some 41, .un .not (.t 40), [1], none⟩,
    ⟨some 42, .mov none (.t 41), [2], none⟩,
    ⟨some 43, .load true 2 (.t 4), [3], some (42, false)⟩,
    ⟨some 44, .fad 0 (.t 1), [3], some (42, false)⟩,
    ⟨some 45, .load true 2 (.t 44), [5], some (42, false)⟩,
    ⟨some 46, .eqa .eql ([.int] ++ [.int]) (.t 43) (.t 45), [6, 4], some (42, false)⟩,
    ⟨some 47, .pick (.t 42) (.k (.one (.iv (.bool true)))) (.t 46), [7], none⟩,
    ⟨some 48, .mov none (.t 47), [8], none⟩,
    ⟨some 49, .mov none (.t 3), [9], some (48, false)⟩,
    ⟨some 50, .bin .gtr (.t 49) (.k (.one (.iv (.int .i64 0)))), [10], some (48, false)⟩,
    ⟨some 51, .mov none (.t 50), [11], some (48, false)⟩,
    ⟨some 52, .fad 7 (.t 1), [12], some (51, true)⟩,
    ⟨some 53, .load false 1 (.t 52), [13], some (51, true)⟩,
    ⟨some 54, .mov none (.t 3), [12], some (51, true)⟩,
    ⟨some 55, .bin .sub (.t 54) (.k (.one (.iv (.int .i64 1)))), [15], some (51, true)⟩,
    ⟨some 56, .ixS 2 (.t 53) (.t 55), [16, 14], some (51, true)⟩,
    ⟨some 57, .load true 2 (.t 56), [17], some (51, true)⟩,
    ⟨some 58, .load true 2 (.t 4), [12], some (51, true)⟩,
    ⟨some 59, .call 20 [(false, .t 57), (false, .t 58)], [19, 18], some (51, true)⟩,
    ⟨some 60, .un .not (.t 59), [20], some (51, true)⟩,
    ⟨some 61, .pick (.t 51) (.t 60) (.k (.one (.iv (.bool false)))), [21], some (48, false)⟩,
    ⟨some 62, .pick (.t 48) (.k (.one (.iv (.bool true)))) (.t 61), [22], none⟩])
  (.cond (.t 62) (.seq (.region false [⟨some 2, .mov none (.k (.one (.iv (.int .i64 1)))), [], none⟩])
  (.ret)) (.skip)))))
  (.region false [⟨some 63, .bin .add (.t 34) (.k (.one (.iv (.int .i64 1)))), [], none⟩,
    ⟨some 34, .mov none (.t 63), [], none⟩])))
def b133 : VCode := .seq (.region false [⟨some 1, .box (.t 0), [], none⟩,
    ⟨some 2, .mov none (.k (.one (.iv (.int .i64 0)))), [], none⟩])
  (.seq (.seq (.region false [⟨some 5, .fad 0 (.t 1), [], none⟩,
    ⟨some 6, .load true 2 (.t 5), [], none⟩,
    ⟨some 7, .call 19 [(false, .t 6)], [], none⟩,
    ⟨some 8, .un .not (.t 7), [], none⟩,
    ⟨some 9, .mov none (.t 8), [], none⟩,
    ⟨some 10, .fad 2 (.t 1), [], some (9, false)⟩,
    ⟨some 11, .load false 1 (.t 10), [], some (9, false)⟩,
    ⟨some 12, .bin .lss (.t 11) (.k (.one (.iv (.int .i64 1)))), [], some (9, false)⟩,
    ⟨some 13, .pick (.t 9) (.k (.one (.iv (.bool true)))) (.t 12), [], none⟩,
    ⟨some 14, .mov none (.t 13), [], none⟩,
    ⟨some 15, .fad 2 (.t 1), [], some (14, false)⟩,
    ⟨some 16, .load false 1 (.t 15), [], some (14, false)⟩,
    ⟨some 17, .bin .gtr (.t 16) (.k (.one (.iv (.int .i64 1099511627776)))), [], some (14, false)⟩,
    ⟨some 18, .pick (.t 14) (.k (.one (.iv (.bool true)))) (.t 17), [], none⟩,
    ⟨some 19, .mov none (.t 18), [], none⟩,
    ⟨some 20, .fad 4 (.t 1), [], some (19, false)⟩,
    ⟨some 21, .load false 1 (.t 20), [], some (19, false)⟩,
    ⟨some 22, .call 151 [(false, .t 21)], [], some (19, false)⟩,
    ⟨some 23, .un .not (.t 22), [], some (19, false)⟩,
    ⟨some 24, .pick (.t 19) (.k (.one (.iv (.bool true)))) (.t 23), [], none⟩,
    ⟨some 25, .mov none (.t 24), [], none⟩,
    ⟨some 26, .fad 7 (.t 1), [], some (25, false)⟩,
    ⟨some 27, .load false 1 (.t 26), [], some (25, false)⟩,
    ⟨some 28, .blt .len [.t 27], [], some (25, false)⟩,
    ⟨some 29, .bin .gtr (.t 28) (.k (.one (.iv (.int .i64 120)))), [], some (25, false)⟩,
    ⟨some 30, .pick (.t 25) (.k (.one (.iv (.bool true)))) (.t 29), [], none⟩])
  (.cond (.t 30) (.seq (.region false [⟨some 2, .mov none (.k (.one (.iv (.int .i64 1)))), [], none⟩])
  (.ret)) (.skip)))
  (.seq (.seq (.region false [⟨some 31, .fad 7 (.t 1), [], none⟩,
    ⟨some 32, .load false 1 (.t 31), [], none⟩,
    ⟨some 33, .blt .len [.t 32], [], none⟩,
    ⟨some 34, .mov none (.k (.one (.iv (.int .i64 0)))), [], none⟩])
  (.block 0 (.loop false [1, 32, 33, 34] l133_0)))
  (.seq (.seq (.region false [⟨some 64, .fad 3 (.t 1), [], none⟩,
    ⟨some 65, .load false 1 (.t 64), [], none⟩,
    ⟨some 66, .bin .eql (.t 65) (.k (.one (.iv (.int .i64 2)))), [], none⟩,
    ⟨some 67, .mov none (.t 66), [], none⟩,
    ⟨some 68, .fad 5 (.t 1), [], some (67, true)⟩,
    ⟨some 69, .load false 1 (.t 68), [], some (67, true)⟩,
    ⟨some 70, .bin .eql (.t 69) (.k (.one (.iv (.int .i64 0)))), [], some (67, true)⟩,
    ⟨some 71, .pick (.t 67) (.t 70) (.k (.one (.iv (.bool false)))), [], none⟩,
    ⟨some 72, .mov none (.t 71), [], none⟩,
    ⟨some 73, .fad 6 (.t 1), [], some (72, true)⟩,
    ⟨some 74, .load false 1 (.t 73), [], some (72, true)⟩,
    ⟨some 75, .bin .eql (.t 74) (.k (.one (.iv (.str ⟨#[]⟩)))), [], some (72, true)⟩,
    ⟨some 76, .pick (.t 72) (.t 75) (.k (.one (.iv (.bool false)))), [], none⟩])
  (.cond (.t 76) (.seq (.region false [⟨some 2, .mov none (.k (.one (.iv (.int .i64 0)))), [], none⟩])
  (.ret)) (.skip)))
  (.seq (.seq (.region false [⟨some 77, .fad 3 (.t 1), [], none⟩,
    ⟨some 78, .load false 1 (.t 77), [], none⟩,
    ⟨some 79, .bin .neq (.t 78) (.k (.one (.iv (.int .i64 1)))), [], none⟩])
  (.cond (.t 79) (.seq (.region false [⟨some 2, .mov none (.k (.one (.iv (.int .i64 1)))), [], none⟩])
  (.ret)) (.skip)))
  (.seq (.region false [⟨some 80, .fad 5 (.t 1), [], none⟩,
    ⟨some 81, .load false 1 (.t 80), [], none⟩,
    ⟨some 82, .fad 6 (.t 1), [], none⟩,
    ⟨some 83, .load false 1 (.t 82), [], none⟩,
    ⟨some 84, .call 152 [(false, .t 81), (false, .t 83)], [], none⟩,
    ⟨some 2, .mov none (.t 84), [], none⟩])
  (.ret))))))
def v133 : VFn := ⟨1, 85, [.t 2], b133⟩

theorem c133 : chkFn Try.prog 133 v133 = true := by kernel_rfl

/- scholia/scholiaref12.PutDot -/
def b134 : VCode := .seq (.region false [⟨some 3, .box (.t 1), [], none⟩,
    ⟨some 4, .mov none (.k (.one (.iv (.sl true 0 [])))), [], none⟩])
  (.seq (.region true [⟨some 5, .mov none (.t 0), [], none⟩,
    ⟨some 6, .fad 0 (.t 3), [], none⟩,
    ⟨some 7, .load false 1 (.t 6), [1], none⟩,
    ⟨some 8, .call 94 [(false, .t 5), (false, .t 7)], [2, 0], none⟩,
    ⟨some 9, .fad 1 (.t 3), [], none⟩,
    ⟨some 10, .load false 1 (.t 9), [4], none⟩,
    ⟨some 11, .call 94 [(false, .t 8), (false, .t 10)], [5, 3], none⟩,
    ⟨some 4, .mov none (.t 11), [6], none⟩])
  (.ret))
def v134 : VFn := ⟨2, 12, [.t 4], b134⟩

theorem c134 : chkFn Try.prog 134 v134 = true := by kernel_rfl

/- scholia/scholiaref01.Text -/
def b135 : VCode := .seq (.region false [⟨some 4, .mov none (.k (.one (.iv (.sl true 0 [])))), [], none⟩])
  (.seq (.region false [⟨some 5, .mov none (.t 0), [], none⟩,
    ⟨some 6, .mov none (.t 1), [], none⟩,
    ⟨some 7, .blt .lenS [.t 6], [], none⟩,
    ⟨some 8, .call 94 [(false, .t 5), (false, .t 7)], [], none⟩,
    ⟨some 9, .mov none (.t 1), [], none⟩,
    ⟨some 10, .s2b (.t 9), [], none⟩,
    ⟨some 11, .call 123 [(false, .t 8), (false, .t 10)], [], none⟩,
    ⟨some 4, .mov none (.t 11), [], none⟩])
  (.ret))
def v135 : VFn := ⟨2, 12, [.t 4], b135⟩

theorem c135 : chkFn Try.prog 135 v135 = true := by kernel_rfl

/- scholia/scholiaref12.ReadDot -/
def b136 : VCode := .seq (.region false [⟨some 2, .new [.iv (.int .i64 0), .iv (.int .i64 0)], [], none⟩])
  (.seq (.region false [⟨some 4, .mov none (.t 0), [], none⟩,
    ⟨some 5, .call 96 [(false, .t 4), (false, .k (.one (.iv (.int .i64 63))))], [], none⟩,
    ⟨some 6, .build [.iv (.int .i64 0), .iv (.int .i64 0)] [(0, 1, .t 5)], [], none⟩,
    ⟨some 3, .new [.iv (.int .i64 0), .iv (.int .i64 0)], [], none⟩,
    ⟨none, .store 2 (.t 3) (.t 6), [], none⟩])
  (.seq (.region false [⟨some 7, .mov none (.t 0), [], none⟩,
    ⟨some 8, .call 96 [(false, .t 7), (false, .k (.one (.iv (.int .i64 1073741824))))], [], none⟩,
    ⟨some 9, .fad 1 (.t 3), [], none⟩,
    ⟨none, .store 1 (.t 9) (.t 8), [], none⟩])
  (.seq (.region false [⟨some 10, .load true 2 (.t 3), [], none⟩,
    ⟨none, .store 2 (.t 2) (.t 10), [], none⟩])
  (.ret))))
def v136 : VFn := ⟨1, 11, [.c 2 true 2], b136⟩

theorem c136 : chkFn Try.prog 136 v136 = true := by kernel_rfl

/- (*scholia/scholiaref01.In).Text -/
def b137 : VCode := .seq (.region false [⟨some 4, .mov none (.k (.one (.iv (.str ⟨#[]⟩)))), [], none⟩])
  (.seq (.region false [⟨some 7, .mov none (.t 0), [], none⟩,
    ⟨some 8, .mov none (.t 1), [], none⟩,
    ⟨some 9, .call 96 [(false, .t 7), (false, .t 8)], [], none⟩,
    ⟨some 5, .mov none (.t 9), [], none⟩])
  (.seq (.seq (.region false [⟨some 10, .mov none (.t 5), [], none⟩,
    ⟨some 11, .mov none (.t 0), [], none⟩,
    ⟨some 12, .nilc (.t 11), [], none⟩,
    ⟨some 13, .fad 0 (.t 12), [], none⟩,
    ⟨some 14, .load false 1 (.t 13), [], none⟩,
    ⟨some 15, .blt .len [.t 14], [], none⟩,
    ⟨some 16, .bin .gtr (.t 10) (.t 15), [], none⟩])
  (.cond (.t 16) (.seq (.region false [⟨some 17, .mov none (.t 0), [], none⟩,
    ⟨some 18, .call 126 [(false, .t 17), (false, .k (.one (.iv (.int .i64 4))))], [], none⟩])
  (.seq (.region false [⟨some 4, .mov none (.k (.one (.iv (.str ⟨#[]⟩)))), [], none⟩])
  (.ret))) (.skip)))
  (.seq (.region false [⟨some 19, .mov none (.t 0), [], none⟩,
    ⟨some 20, .nilc (.t 19), [], none⟩,
    ⟨some 21, .fad 0 (.t 20), [], none⟩,
    ⟨some 22, .load false 1 (.t 21), [], none⟩,
    ⟨some 23, .mov none (.t 5), [], none⟩,
    ⟨some 24, .slS 1 (.t 22) none (some (.t 23)) none, [], none⟩,
    ⟨some 25, .b2s (.t 24), [], none⟩,
    ⟨some 6, .mov none (.t 25), [], none⟩])
  (.seq (.region false [⟨some 26, .mov none (.t 0), [], none⟩,
    ⟨some 27, .mov none (.t 0), [], none⟩,
    ⟨some 28, .nilc (.t 27), [], none⟩,
    ⟨some 29, .fad 0 (.t 28), [], none⟩,
    ⟨some 30, .load false 1 (.t 29), [], none⟩,
    ⟨some 31, .mov none (.t 5), [], none⟩,
    ⟨some 32, .slS 1 (.t 30) (some (.t 31)) none none, [], none⟩,
    ⟨some 33, .nilc (.t 26), [], none⟩,
    ⟨some 34, .fad 0 (.t 33), [], none⟩,
    ⟨none, .store 1 (.t 34) (.t 32), [], none⟩])
  (.seq (.region false [⟨some 35, .mov none (.t 6), [], none⟩,
    ⟨some 4, .mov none (.t 35), [], none⟩])
  (.ret))))))
def v137 : VFn := ⟨2, 36, [.t 4], b137⟩

theorem c137 : chkFn Try.prog 137 v137 = true := by kernel_rfl

/- math/bits.Len64 -/
def b148 : VCode := .seq (.region false [⟨some 2, .mov none (.k (.one (.iv (.int .i64 0)))), [], none⟩])
  (.seq (.seq (.region false [⟨some 3, .mov none (.t 0), [], none⟩,
    ⟨some 4, .bin .geq (.t 3) (.k (.one (.iv (.int .u64 4294967296)))), [], none⟩])
  (.cond (.t 4) (.seq (.region false [⟨some 5, .mov none (.t 0), [], none⟩,
    ⟨some 6, .bin .shr (.t 5) (.k (.one (.iv (.int .u64 32)))), [], none⟩,
    ⟨some 0, .mov none (.t 6), [], none⟩])
  (.region false [⟨some 2, .mov none (.k (.one (.iv (.int .i64 32)))), [], none⟩])) (.skip)))
  (.seq (.seq (.region false [⟨some 7, .mov none (.t 0), [], none⟩,
    ⟨some 8, .bin .geq (.t 7) (.k (.one (.iv (.int .u64 65536)))), [], none⟩])
  (.cond (.t 8) (.seq (.region false [⟨some 9, .mov none (.t 0), [], none⟩,
    ⟨some 10, .bin .shr (.t 9) (.k (.one (.iv (.int .u64 16)))), [], none⟩,
    ⟨some 0, .mov none (.t 10), [], none⟩])
  (.region false [⟨some 11, .mov none (.t 2), [], none⟩,
    ⟨some 12, .bin .add (.t 11) (.k (.one (.iv (.int .i64 16)))), [], none⟩,
    ⟨some 2, .mov none (.t 12), [], none⟩])) (.skip)))
  (.seq (.seq (.region false [⟨some 13, .mov none (.t 0), [], none⟩,
    ⟨some 14, .bin .geq (.t 13) (.k (.one (.iv (.int .u64 256)))), [], none⟩])
  (.cond (.t 14) (.seq (.region false [⟨some 15, .mov none (.t 0), [], none⟩,
    ⟨some 16, .bin .shr (.t 15) (.k (.one (.iv (.int .u64 8)))), [], none⟩,
    ⟨some 0, .mov none (.t 16), [], none⟩])
  (.region false [⟨some 17, .mov none (.t 2), [], none⟩,
    ⟨some 18, .bin .add (.t 17) (.k (.one (.iv (.int .i64 8)))), [], none⟩,
    ⟨some 2, .mov none (.t 18), [], none⟩])) (.skip)))
  (.seq (.region false [⟨some 19, .mov none (.t 2), [], none⟩,
    ⟨some 20, .mov none (.t 0), [], none⟩,
    ⟨some 21, .conv .u8 (.t 20), [], none⟩,
    ⟨some 22, .ixT (.k (.one (.iv (.str ⟨#[0, 1, 2, 2, 3, 3, 3, 3, 4, 4, 4, 4, 4, 4, 4, 4, 5, 5, 5, 5, 5, 5, 5, 5, 5, 5, 5, 5, 5, 5, 5, 5, 6, 6, 6, 6, 6, 6, 6, 6, 6, 6, 6, 6, 6, 6, 6, 6, 6, 6, 6, 6, 6, 6, 6, 6, 6, 6, 6, 6, 6, 6, 6, 6, 7, 7, 7, 7, 7, 7, 7, 7, 7, 7, 7, 7, 7, 7, 7, 7, 7, 7, 7, 7, 7, 7, 7, 7, 7, 7, 7, 7, 7, 7, 7, 7, 7, 7, 7, 7, 7, 7, 7, 7, 7, 7, 7, 7, 7, 7, 7, 7, 7, 7, 7, 7, 7, 7, 7, 7, 7, 7, 7, 7, 7, 7, 7, 7, 8, 8, 8, 8, 8, 8, 8, 8, 8, 8, 8, 8, 8, 8, 8, 8, 8, 8, 8, 8, 8, 8, 8, 8, 8, 8, 8, 8, 8, 8, 8, 8, 8, 8, 8, 8, 8, 8, 8, 8, 8, 8, 8, 8, 8, 8, 8, 8, 8, 8, 8, 8, 8, 8, 8, 8, 8, 8, 8, 8, 8, 8, 8, 8, 8, 8, 8, 8, 8, 8, 8, 8, 8, 8, 8, 8, 8, 8, 8, 8, 8, 8, 8, 8, 8, 8, 8, 8, 8, 8, 8, 8, 8, 8, 8, 8, 8, 8, 8, 8, 8, 8, 8, 8, 8, 8, 8, 8, 8, 8, 8, 8, 8, 8, 8, 8, 8, 8, 8, 8, 8, 8, 8, 8, 8, 8, 8, 8]⟩)))) (.t 21), [], none⟩,
    ⟨some 23, .conv .i64 (.t 22), [], none⟩,
    ⟨some 24, .bin .add (.t 19) (.t 23), [], none⟩,
    ⟨some 2, .mov none (.t 24), [], none⟩])
  (.ret)))))
def v148 : VFn := ⟨1, 25, [.t 2], b148⟩

theorem c148 : chkFn Try.prog 148 v148 = true := by kernel_rfl

/- math/bits.LeadingZeros8 -/
def b149 : VCode := .seq (.region false [⟨some 2, .mov none (.k (.one (.iv (.int .i64 0)))), [], none⟩])
  (.seq (.region false [⟨some 3, .mov none (.t 0), [], none⟩,
    ⟨some 4, .call 158 [(false, .t 3)], [], none⟩,
    ⟨some 5, .bin .sub (.k (.one (.iv (.int .i64 8)))) (.t 4), [], none⟩,
    ⟨some 2, .mov none (.t 5), [], none⟩])
  (.ret))
def v149 : VFn := ⟨1, 6, [.t 2], b149⟩

theorem c149 : chkFn Try.prog 149 v149 = true := by kernel_rfl

/- scholia/utf.Valid -/
def l150_0 : VCode := .seq (.seq (.region false [⟨some 6, .mov none (.t 3), [], none⟩,
    ⟨some 7, .mov none (.t 0), [], none⟩,
    ⟨some 8, .blt .lenS [.t 7], [], none⟩,
    ⟨some 9, .bin .lss (.t 6) (.t 8), [], none⟩])
  (.cond (.t 9) (.skip) (.exit 0)))
  (.block 1 (.seq (.region false [⟨some 11, .mov none (.t 0), [], none⟩,
    ⟨some 12, .mov none (.t 3), [], none⟩,
    ⟨some 13, .call 159 [(false, .t 11), (false, .t 12)], [], none⟩,
    ⟨some 10, .mov none (.t 13), [], none⟩,
    ⟨some 14, .ext 0 (.t 10), [], none⟩,
    ⟨some 15, .ext 1 (.t 10), [], none⟩,
    ⟨some 4, .mov none (.t 14), [], none⟩,
    ⟨some 5, .mov none (.t 15), [], none⟩])
  (.seq (.seq (.region false [⟨some 16, .mov none (.t 4), [], none⟩,
    ⟨some 17, .bin .lss (.t 16) (.k (.one (.iv (.int .i64 0)))), [], none⟩])
  (.cond (.t 17) (.seq (.region false [⟨some 2, .mov none (.k (.one (.iv (.bool false)))), [], none⟩])
  (.ret)) (.skip)))
  (.region false [⟨some 18, .mov none (.t 3), [], none⟩,
    ⟨some 19, .mov none (.t 5), [], none⟩,
    ⟨some 20, .bin .add (.t 18) (.t 19), [], none⟩,
    ⟨some 3, .mov none (.t 20), [], none⟩]))))
def b150 : VCode := .seq (.region false [⟨some 2, .mov none (.k (.one (.iv (.bool false)))), [], none⟩])
  (.seq (.seq (.region false [⟨some 3, .mov none (.k (.one (.iv (.int .i64 0)))), [], none⟩])
  (.block 0 (.loop false [0, 3] l150_0)))
  (.seq (.region false [⟨some 2, .mov none (.k (.one (.iv (.bool true)))), [], none⟩])
  (.ret)))
def v150 : VFn := ⟨1, 21, [.t 2], b150⟩

theorem c150 : chkFn Try.prog 150 v150 = true := by kernel_rfl

/- scholia/scholiaref12.Name -/
def l151_0 : VCode := .seq (.region false [⟨some 16, .bin .lss (.t 15) (.t 14), [], none⟩])
  (.seq (.cond (.t 16) (.skip) (.exit 0))
  (.seq (.block 1 (.seq (.region false [⟨some 17, .mov none (.t 15), [], none⟩,
    ⟨some 3, .mov none (.t 17), [], none⟩])
  (.seq (.region false [⟨some 18, .mov none (.t 0), [], none⟩,
    ⟨some 19, .mov none (.t 3), [], none⟩,
    ⟨some 20, .ixT (.t 18) (.t 19), [], none⟩,
    ⟨some 4, .mov none (.t 20), [], none⟩])
  (.seq (.region false [⟨some 21, .mov none (.t 4), [], none⟩,
    ⟨some 22, .bin .geq (.t 21) (.k (.one (.iv (.int .u8 97)))), [], none⟩,
    ⟨some 23, .mov none (.t 22), [], none⟩,
    ⟨some 24, .mov none (.t 4), [], some (23, true)⟩,
    ⟨some 25, .bin .leq (.t 24) (.k (.one (.iv (.int .u8 122)))), [], some (23, true)⟩,
    ⟨some 26, .pick (.t 23) (.t 25) (.k (.one (.iv (.bool false)))), [], none⟩,
    ⟨some 27, .mov none (.t 26), [], none⟩,
    ⟨some 28, .mov none (.t 4), [], some (27, false)⟩,
    ⟨some 29, .bin .geq (.t 28) (.k (.one (.iv (.int .u8 48)))), [], some (27, false)⟩,
    ⟨some 30, .mov none (.t 29), [], some (27, false)⟩,
    ⟨some 31, .mov none (.t 4), [], some (30, true)⟩,
    ⟨some 32, .bin .leq (.t 31) (.k (.one (.iv (.int .u8 57)))), [], some (30, true)⟩,
    ⟨some 33, .pick (.t 30) (.t 32) (.k (.one (.iv (.bool false)))), [], some (27, false)⟩,
    ⟨some 34, .pick (.t 27) (.k (.one (.iv (.bool true)))) (.t 33), [], none⟩,
    ⟨some 35, .mov none (.t 34), [], none⟩,
    ⟨some 36, .mov none (.t 4), [], some (35, false)⟩,
    ⟨some 37, .bin .eql (.t 36) (.k (.one (.iv (.int .u8 45)))), [], some (35, false)⟩,
    ⟨some 38, .pick (.t 35) (.k (.one (.iv (.bool true)))) (.t 37), [], none⟩,
    ⟨some 39, .un .not (.t 38), [], none⟩])
  (.cond (.t 39) (.seq (.region false [⟨some 2, .mov none (.k (.one (.iv (.bool false)))), [], none⟩])
  (.ret)) (.skip))))))
  (.region false [⟨some 40, .bin .add (.t 15) (.k (.one (.iv (.int .i64 1)))), [], none⟩,
    ⟨some 15, .mov none (.t 40), [], none⟩])))
def b151 : VCode := .seq (.region false [⟨some 2, .mov none (.k (.one (.iv (.bool false)))), [], none⟩])
  (.seq (.seq (.region false [⟨some 5, .mov none (.t 0), [], none⟩,
    ⟨some 6, .blt .lenS [.t 5], [], none⟩,
    ⟨some 7, .bin .lss (.t 6) (.k (.one (.iv (.int .i64 1)))), [], none⟩,
    ⟨some 8, .mov none (.t 7), [], none⟩,
    ⟨some 9, .mov none (.t 0), [], some (8, false)⟩,
    ⟨some 10, .blt .lenS [.t 9], [], some (8, false)⟩,
    ⟨some 11, .bin .gtr (.t 10) (.k (.one (.iv (.int .i64 12)))), [], some (8, false)⟩,
    ⟨some 12, .pick (.t 8) (.k (.one (.iv (.bool true)))) (.t 11), [], none⟩])
  (.cond (.t 12) (.seq (.region false [⟨some 2, .mov none (.k (.one (.iv (.bool false)))), [], none⟩])
  (.ret)) (.skip)))
  (.seq (.seq (.region false [⟨some 13, .mov none (.t 0), [], none⟩,
    ⟨some 14, .blt .lenS [.t 13], [], none⟩,
    ⟨some 15, .mov none (.k (.one (.iv (.int .i64 0)))), [], none⟩])
  (.block 0 (.loop false [0, 14, 15] l151_0)))
  (.seq (.region false [⟨some 2, .mov none (.k (.one (.iv (.bool true)))), [], none⟩])
  (.ret))))
def v151 : VFn := ⟨1, 41, [.t 2], b151⟩

theorem c151 : chkFn Try.prog 151 v151 = true := by kernel_rfl

/- scholia/scholiaref12.Text -/
def b152 : VCode := .seq (.region false [⟨some 4, .mov none (.k (.one (.iv (.int .i64 0)))), [], none⟩])
  (.seq (.seq (.region false [⟨some 5, .mov none (.t 0), [], none⟩,
    ⟨some 6, .bin .lss (.t 5) (.k (.one (.iv (.int .i64 0)))), [], none⟩,
    ⟨some 7, .mov none (.t 6), [], none⟩,
    ⟨some 8, .mov none (.t 0), [], some (7, false)⟩,
    ⟨some 9, .bin .gtr (.t 8) (.k (.one (.iv (.int .i64 4)))), [], some (7, false)⟩,
    ⟨some 10, .pick (.t 7) (.k (.one (.iv (.bool true)))) (.t 9), [], none⟩,
    ⟨some 11, .mov none (.t 10), [], none⟩,
    ⟨some 12, .mov none (.t 0), [], some (11, false)⟩,
    ⟨some 13, .bin .eql (.t 12) (.k (.one (.iv (.int .i64 0)))), [], some (11, false)⟩,
    ⟨some 14, .mov none (.t 13), [], some (11, false)⟩,
    ⟨some 15, .mov none (.t 1), [], some (14, true)⟩,
    ⟨some 16, .blt .lenS [.t 15], [], some (14, true)⟩,
    ⟨some 17, .bin .gtr (.t 16) (.k (.one (.iv (.int .i64 0)))), [], some (14, true)⟩,
    ⟨some 18, .pick (.t 14) (.t 17) (.k (.one (.iv (.bool false)))), [], some (11, false)⟩,
    ⟨some 19, .pick (.t 11) (.k (.one (.iv (.bool true)))) (.t 18), [], none⟩])
  (.cond (.t 19) (.seq (.region false [⟨some 4, .mov none (.k (.one (.iv (.int .i64 1)))), [], none⟩])
  (.ret)) (.skip)))
  (.seq (.seq (.region false [⟨some 20, .mov none (.t 1), [], none⟩,
    ⟨some 21, .blt .lenS [.t 20], [], none⟩,
    ⟨some 22, .bin .gtr (.t 21) (.k (.one (.iv (.int .i64 160)))), [], none⟩])
  (.cond (.t 22) (.seq (.region false [⟨some 4, .mov none (.k (.one (.iv (.int .i64 5)))), [], none⟩])
  (.ret)) (.skip)))
  (.seq (.seq (.region false [⟨some 23, .mov none (.t 1), [], none⟩,
    ⟨some 24, .call 160 [(false, .t 23)], [], none⟩,
    ⟨some 25, .un .not (.t 24), [], none⟩])
  (.cond (.t 25) (.seq (.region false [⟨some 4, .mov none (.k (.one (.iv (.int .i64 7)))), [], none⟩])
  (.ret)) (.skip)))
  (.seq (.region false [⟨some 4, .mov none (.k (.one (.iv (.int .i64 0)))), [], none⟩])
  (.ret)))))
def v152 : VFn := ⟨2, 26, [.t 4], b152⟩

theorem c152 : chkFn Try.prog 152 v152 = true := by kernel_rfl

/- math/bits.Len8 -/
def b158 : VCode := .seq (.region false [⟨some 2, .mov none (.k (.one (.iv (.int .i64 0)))), [], none⟩])
  (.seq (.region false [⟨some 3, .mov none (.t 0), [], none⟩,
    ⟨some 4, .ixT (.k (.one (.iv (.str ⟨#[0, 1, 2, 2, 3, 3, 3, 3, 4, 4, 4, 4, 4, 4, 4, 4, 5, 5, 5, 5, 5, 5, 5, 5, 5, 5, 5, 5, 5, 5, 5, 5, 6, 6, 6, 6, 6, 6, 6, 6, 6, 6, 6, 6, 6, 6, 6, 6, 6, 6, 6, 6, 6, 6, 6, 6, 6, 6, 6, 6, 6, 6, 6, 6, 7, 7, 7, 7, 7, 7, 7, 7, 7, 7, 7, 7, 7, 7, 7, 7, 7, 7, 7, 7, 7, 7, 7, 7, 7, 7, 7, 7, 7, 7, 7, 7, 7, 7, 7, 7, 7, 7, 7, 7, 7, 7, 7, 7, 7, 7, 7, 7, 7, 7, 7, 7, 7, 7, 7, 7, 7, 7, 7, 7, 7, 7, 7, 7, 8, 8, 8, 8, 8, 8, 8, 8, 8, 8, 8, 8, 8, 8, 8, 8, 8, 8, 8, 8, 8, 8, 8, 8, 8, 8, 8, 8, 8, 8, 8, 8, 8, 8, 8, 8, 8, 8, 8, 8, 8, 8, 8, 8, 8, 8, 8, 8, 8, 8, 8, 8, 8, 8, 8, 8, 8, 8, 8, 8, 8, 8, 8, 8, 8, 8, 8, 8, 8, 8, 8, 8, 8, 8, 8, 8, 8, 8, 8, 8, 8, 8, 8, 8, 8, 8, 8, 8, 8, 8, 8, 8, 8, 8, 8, 8, 8, 8, 8, 8, 8, 8, 8, 8, 8, 8, 8, 8, 8, 8, 8, 8, 8, 8, 8, 8, 8, 8, 8, 8, 8, 8, 8, 8, 8, 8, 8, 8]⟩)))) (.t 3), [], none⟩,
    ⟨some 5, .conv .i64 (.t 4), [], none⟩,
    ⟨some 2, .mov none (.t 5), [], none⟩])
  (.ret))
def v158 : VFn := ⟨1, 6, [.t 2], b158⟩

theorem c158 : chkFn Try.prog 158 v158 = true := by kernel_rfl

/- scholia/utf.Next -/
def l159_0 : VCode := .seq (.region false [⟨some 47, .bin .lss (.t 46) (.t 45), [], none⟩])
  (.seq (.cond (.t 47) (.skip) (.exit 0))
  (.seq (.block 1 (.seq (.region false [⟨some 48, .ixS 1 (.t 44) (.t 46), [], none⟩,
    ⟨some 49, .load false 1 (.t 48), [], none⟩,
    ⟨some 9, .mov none (.t 49), [], none⟩])
  (.seq (.seq (.region false [⟨some 50, .mov none (.t 9), [], none⟩,
    ⟨some 51, .bin .and (.t 50) (.k (.one (.iv (.int .u8 192)))), [], none⟩,
    ⟨some 52, .bin .neq (.t 51) (.k (.one (.iv (.int .u8 128)))), [], none⟩])
  (.cond (.t 52) (.seq (.region false [⟨some 4, .mov none (.k (.one (.iv (.int .i64 (-1))))), [], none⟩,
    ⟨some 5, .mov none (.k (.one (.iv (.int .i64 1)))), [], none⟩])
  (.ret)) (.skip)))
  (.region false [⟨some 53, .mov none (.t 7), [], none⟩,
    ⟨some 54, .bin .shl (.t 53) (.k (.one (.iv (.int .u64 6)))), [], none⟩,
    ⟨some 55, .mov none (.t 9), [], none⟩,
    ⟨some 56, .bin .and (.t 55) (.k (.one (.iv (.int .u8 63)))), [], none⟩,
    ⟨some 57, .conv .i64 (.t 56), [], none⟩,
    ⟨some 58, .bin .or (.t 54) (.t 57), [], none⟩,
    ⟨some 7, .mov none (.t 58), [], none⟩]))))
  (.region false [⟨some 59, .bin .add (.t 46) (.k (.one (.iv (.int .i64 1)))), [], none⟩,
    ⟨some 46, .mov none (.t 59), [], none⟩])))
def b159 : VCode := .seq (.region false [⟨some 4, .mov none (.k (.one (.iv (.int .i64 0)))), [], none⟩,
    ⟨some 5, .mov none (.k (.one (.iv (.int .i64 0)))), [], none⟩])
  (.seq (.seq (.region false [⟨some 10, .mov none (.t 1), [], none⟩,
    ⟨some 11, .bin .lss (.t 10) (.k (.one (.iv (.int .i64 0)))), [], none⟩,
    ⟨some 12, .mov none (.t 11), [], none⟩,
    ⟨some 13, .mov none (.t 1), [], some (12, false)⟩,
    ⟨some 14, .mov none (.t 0), [], some (12, false)⟩,
    ⟨some 15, .blt .lenS [.t 14], [], some (12, false)⟩,
    ⟨some 16, .bin .geq (.t 13) (.t 15), [], some (12, false)⟩,
    ⟨some 17, .pick (.t 12) (.k (.one (.iv (.bool true)))) (.t 16), [], none⟩])
  (.cond (.t 17) (.seq (.region false [⟨some 4, .mov none (.k (.one (.iv (.int .i64 (-1))))), [], none⟩,
    ⟨some 5, .mov none (.k (.one (.iv (.int .i64 0)))), [], none⟩])
  (.ret)) (.skip)))
  (.seq (.region false [⟨some 18, .mov none (.t 0), [], none⟩,
    ⟨some 19, .mov none (.t 1), [], none⟩,
    ⟨some 20, .ixT (.t 18) (.t 19), [], none⟩,
    ⟨some 21, .call 162 [(false, .t 20)], [], none⟩,
    ⟨some 6, .new [.iv (.int .i64 0), .iv (.int .i64 0), .iv (.int .i64 0)], [], none⟩,
    ⟨none, .store 3 (.t 6) (.t 21), [], none⟩])
  (.seq (.seq (.region false [⟨some 22, .fad 0 (.t 6), [], none⟩,
    ⟨some 23, .load false 1 (.t 22), [], none⟩,
    ⟨some 24, .bin .eql (.t 23) (.k (.one (.iv (.int .i64 0)))), [], none⟩,
    ⟨some 25, .mov none (.t 24), [], none⟩,
    ⟨some 26, .fad 0 (.t 6), [], some (25, false)⟩,
    ⟨some 27, .load false 1 (.t 26), [], some (25, false)⟩,
    ⟨some 28, .mov none (.t 0), [], some (25, false)⟩,
    ⟨some 29, .blt .lenS [.t 28], [], some (25, false)⟩,
    ⟨some 30, .mov none (.t 1), [], some (25, false)⟩,
    ⟨some 31, .bin .sub (.t 29) (.t 30), [], some (25, false)⟩,
    ⟨some 32, .bin .gtr (.t 27) (.t 31), [], some (25, false)⟩,
    ⟨some 33, .pick (.t 25) (.k (.one (.iv (.bool true)))) (.t 32), [], none⟩])
  (.cond (.t 33) (.seq (.region false [⟨some 4, .mov none (.k (.one (.iv (.int .i64 (-1))))), [], none⟩,
    ⟨some 5, .mov none (.k (.one (.iv (.int .i64 1)))), [], none⟩])
  (.ret)) (.skip)))
  (.seq (.region false [⟨some 34, .fad 1 (.t 6), [], none⟩,
    ⟨some 35, .load false 1 (.t 34), [], none⟩,
    ⟨some 7, .mov none (.t 35), [], none⟩])
  (.seq (.seq (.region false [⟨some 36, .mov none (.t 0), [], none⟩,
    ⟨some 37, .mov none (.t 1), [], none⟩,
    ⟨some 38, .bin .add (.t 37) (.k (.one (.iv (.int .i64 1)))), [], none⟩,
    ⟨some 39, .mov none (.t 1), [], none⟩,
    ⟨some 40, .fad 0 (.t 6), [], none⟩,
    ⟨some 41, .load false 1 (.t 40), [], none⟩,
    ⟨some 42, .bin .add (.t 39) (.t 41), [], none⟩,
    ⟨some 43, .slT (.t 36) (some (.t 38)) (some (.t 42)), [], none⟩,
    ⟨some 44, .s2b (.t 43), [], none⟩,
    ⟨some 45, .blt .len [.t 44], [], none⟩,
    ⟨some 46, .mov none (.k (.one (.iv (.int .i64 0)))), [], none⟩])
  (.block 0 (.loop false [6, 7, 44, 45, 46] l159_0)))
  (.seq (.seq (.region false [⟨some 60, .mov none (.t 7), [], none⟩,
    ⟨some 61, .fad 2 (.t 6), [], none⟩,
    ⟨some 62, .load false 1 (.t 61), [], none⟩,
    ⟨some 63, .bin .lss (.t 60) (.t 62), [], none⟩,
    ⟨some 64, .mov none (.t 63), [], none⟩,
    ⟨some 65, .mov none (.t 7), [], some (64, false)⟩,
    ⟨some 66, .call 163 [(false, .t 65)], [], some (64, false)⟩,
    ⟨some 67, .un .not (.t 66), [], some (64, false)⟩,
    ⟨some 68, .pick (.t 64) (.k (.one (.iv (.bool true)))) (.t 67), [], none⟩])
  (.cond (.t 68) (.seq (.region false [⟨some 4, .mov none (.k (.one (.iv (.int .i64 (-1))))), [], none⟩,
    ⟨some 5, .mov none (.k (.one (.iv (.int .i64 1)))), [], none⟩])
  (.ret)) (.skip)))
  (.seq (.region true [⟨some 69, .mov none (.t 7), [], none⟩,
    ⟨some 70, .fad 0 (.t 6), [], none⟩,
    ⟨some 71, .load false 1 (.t 70), [1], none⟩,
    ⟨some 4, .mov none (.t 69), [0], none⟩,
    ⟨some 5, .mov none (.t 71), [3, 2], none⟩])
  (.ret))))))))
def v159 : VFn := ⟨2, 72, [.t 4, .t 5], b159⟩

theorem c159 : chkFn Try.prog 159 v159 = true := by kernel_rfl

/- scholia/scholiaref03.Valid -/
def l160_0 : VCode := .seq (.region false [⟨some 10, .bin .lss (.t 9) (.t 8), [], none⟩])
  (.seq (.cond (.t 10) (.skip) (.exit 0))
  (.seq (.block 1 (.seq (.region false [⟨some 11, .mov none (.t 9), [], none⟩,
    ⟨some 4, .mov none (.t 11), [], none⟩])
  (.seq (.seq (.region false [⟨some 12, .mov none (.t 3), [], none⟩,
    ⟨some 13, .bin .gtr (.t 12) (.k (.one (.iv (.int .i64 0)))), [], none⟩])
  (.cond (.t 13) (.seq (.region false [⟨some 14, .mov none (.t 3), [], none⟩,
    ⟨some 15, .bin .sub (.t 14) (.k (.one (.iv (.int .i64 1)))), [], none⟩,
    ⟨some 3, .mov none (.t 15), [], none⟩])
  (.exit 1)) (.skip)))
  (.seq (.region false [⟨some 17, .mov none (.t 0), [], none⟩,
    ⟨some 18, .mov none (.t 4), [], none⟩,
    ⟨some 19, .call 164 [(false, .t 17), (false, .t 18)], [], none⟩,
    ⟨some 16, .mov none (.t 19), [], none⟩,
    ⟨some 20, .ext 0 (.t 16), [], none⟩,
    ⟨some 21, .ext 1 (.t 16), [], none⟩,
    ⟨some 5, .mov none (.t 20), [], none⟩,
    ⟨some 6, .mov none (.t 21), [], none⟩])
  (.seq (.seq (.region false [⟨some 22, .mov none (.t 5), [], none⟩,
    ⟨some 23, .bin .lss (.t 22) (.k (.one (.iv (.int .i64 0)))), [], none⟩])
  (.cond (.t 23) (.seq (.region false [⟨some 2, .mov none (.k (.one (.iv (.bool false)))), [], none⟩])
  (.ret)) (.skip)))
  (.region false [⟨some 24, .mov none (.t 6), [], none⟩,
    ⟨some 25, .bin .sub (.t 24) (.k (.one (.iv (.int .i64 1)))), [], none⟩,
    ⟨some 3, .mov none (.t 25), [], none⟩]))))))
  (.region false [⟨some 26, .bin .add (.t 9) (.k (.one (.iv (.int .i64 1)))), [], none⟩,
    ⟨some 9, .mov none (.t 26), [], none⟩])))
def b160 : VCode := .seq (.region false [⟨some 2, .mov none (.k (.one (.iv (.bool false)))), [], none⟩])
  (.seq (.region false [⟨some 3, .mov none (.k (.one (.iv (.int .i64 0)))), [], none⟩])
  (.seq (.seq (.region false [⟨some 7, .mov none (.t 0), [], none⟩,
    ⟨some 8, .blt .lenS [.t 7], [], none⟩,
    ⟨some 9, .mov none (.k (.one (.iv (.int .i64 0)))), [], none⟩])
  (.block 0 (.loop false [0, 3, 8, 9] l160_0)))
  (.seq (.region false [⟨some 2, .mov none (.k (.one (.iv (.bool true)))), [], none⟩])
  (.ret))))
def v160 : VFn := ⟨1, 27, [.t 2], b160⟩

theorem c160 : chkFn Try.prog 160 v160 = true := by kernel_rfl

/- scholia/utf.first -/
def b162 : VCode := .seq (.region false [⟨some 2, .new [.iv (.int .i64 0), .iv (.int .i64 0), .iv (.int .i64 0)], [], none⟩])
  (.seq (.block 0 (.seq (.region false [⟨some 4, .mov none (.t 0), [], none⟩,
    ⟨some 5, .bin .lss (.t 4) (.k (.one (.iv (.int .u8 128)))), [], none⟩,
    ⟨some 3, .mov none (.t 5), [], none⟩])
  (.cond (.t 3) (.seq (.region false [⟨some 6, .mov none (.t 0), [], none⟩,
    ⟨some 7, .conv .i64 (.t 6), [], none⟩,
    ⟨some 8, .build [.iv (.int .i64 0), .iv (.int .i64 0), .iv (.int .i64 0)] [(0, 1, .k (.one (.iv (.int .i64 1)))), (1, 1, .t 7), (2, 1, .k (.one (.iv (.int .i64 0))))], [], none⟩,
    ⟨none, .store 3 (.t 2) (.t 8), [], none⟩])
  (.ret)) (.seq (.region false [⟨some 10, .mov none (.t 0), [], none⟩,
    ⟨some 11, .bin .lss (.t 10) (.k (.one (.iv (.int .u8 192)))), [], none⟩,
    ⟨some 9, .mov none (.t 11), [], none⟩])
  (.cond (.t 9) (.seq (.region false [⟨some 12, .build [.iv (.int .i64 0), .iv (.int .i64 0), .iv (.int .i64 0)] [], [], none⟩,
    ⟨none, .store 3 (.t 2) (.t 12), [], none⟩])
  (.ret)) (.seq (.region false [⟨some 14, .mov none (.t 0), [], none⟩,
    ⟨some 15, .bin .lss (.t 14) (.k (.one (.iv (.int .u8 224)))), [], none⟩,
    ⟨some 13, .mov none (.t 15), [], none⟩])
  (.cond (.t 13) (.seq (.region false [⟨some 16, .mov none (.t 0), [], none⟩,
    ⟨some 17, .bin .and (.t 16) (.k (.one (.iv (.int .u8 31)))), [], none⟩,
    ⟨some 18, .conv .i64 (.t 17), [], none⟩,
    ⟨some 19, .build [.iv (.int .i64 0), .iv (.int .i64 0), .iv (.int .i64 0)] [(0, 1, .k (.one (.iv (.int .i64 2)))), (1, 1, .t 18), (2, 1, .k (.one (.iv (.int .i64 128))))], [], none⟩,
    ⟨none, .store 3 (.t 2) (.t 19), [], none⟩])
  (.ret)) (.seq (.region false [⟨some 21, .mov none (.t 0), [], none⟩,
    ⟨some 22, .bin .lss (.t 21) (.k (.one (.iv (.int .u8 240)))), [], none⟩,
    ⟨some 20, .mov none (.t 22), [], none⟩])
  (.cond (.t 20) (.seq (.region false [⟨some 23, .mov none (.t 0), [], none⟩,
    ⟨some 24, .bin .and (.t 23) (.k (.one (.iv (.int .u8 15)))), [], none⟩,
    ⟨some 25, .conv .i64 (.t 24), [], none⟩,
    ⟨some 26, .build [.iv (.int .i64 0), .iv (.int .i64 0), .iv (.int .i64 0)] [(0, 1, .k (.one (.iv (.int .i64 3)))), (1, 1, .t 25), (2, 1, .k (.one (.iv (.int .i64 2048))))], [], none⟩,
    ⟨none, .store 3 (.t 2) (.t 26), [], none⟩])
  (.ret)) (.seq (.region false [⟨some 28, .mov none (.t 0), [], none⟩,
    ⟨some 29, .bin .lss (.t 28) (.k (.one (.iv (.int .u8 248)))), [], none⟩,
    ⟨some 27, .mov none (.t 29), [], none⟩])
  (.cond (.t 27) (.seq (.region false [⟨some 30, .mov none (.t 0), [], none⟩,
    ⟨some 31, .bin .and (.t 30) (.k (.one (.iv (.int .u8 7)))), [], none⟩,
    ⟨some 32, .conv .i64 (.t 31), [], none⟩,
    ⟨some 33, .build [.iv (.int .i64 0), .iv (.int .i64 0), .iv (.int .i64 0)] [(0, 1, .k (.one (.iv (.int .i64 4)))), (1, 1, .t 32), (2, 1, .k (.one (.iv (.int .i64 65536))))], [], none⟩,
    ⟨none, .store 3 (.t 2) (.t 33), [], none⟩])
  (.ret)) (.skip))))))))))))
  (.seq (.region false [⟨some 34, .build [.iv (.int .i64 0), .iv (.int .i64 0), .iv (.int .i64 0)] [], [], none⟩,
    ⟨none, .store 3 (.t 2) (.t 34), [], none⟩])
  (.ret)))
def v162 : VFn := ⟨1, 35, [.c 2 true 3], b162⟩

theorem c162 : chkFn Try.prog 162 v162 = true := by kernel_rfl

/- scholia/utf.Sign -/
def b163 : VCode := .seq (.region false [⟨some 2, .mov none (.k (.one (.iv (.bool false)))), [], none⟩])
  (.seq (.region false [⟨some 3, .mov none (.t 0), [], none⟩,
    ⟨some 4, .bin .geq (.t 3) (.k (.one (.iv (.int .i64 0)))), [], none⟩,
    ⟨some 5, .mov none (.t 4), [], none⟩,
    ⟨some 6, .mov none (.t 0), [], some (5, true)⟩,
    ⟨some 7, .bin .leq (.t 6) (.k (.one (.iv (.int .i64 1114111)))), [], some (5, true)⟩,
    ⟨some 8, .pick (.t 5) (.t 7) (.k (.one (.iv (.bool false)))), [], none⟩,
    ⟨some 9, .mov none (.t 8), [], none⟩,
    ⟨some 10, .mov none (.t 0), [], some (9, true)⟩,
    ⟨some 11, .bin .lss (.t 10) (.k (.one (.iv (.int .i64 55296)))), [], some (9, true)⟩,
    ⟨some 12, .mov none (.t 11), [], some (9, true)⟩,
    ⟨some 13, .mov none (.t 0), [], some (12, false)⟩,
    ⟨some 14, .bin .gtr (.t 13) (.k (.one (.iv (.int .i64 57343)))), [], some (12, false)⟩,
    ⟨some 15, .pick (.t 12) (.k (.one (.iv (.bool true)))) (.t 14), [], some (9, true)⟩,
    ⟨some 16, .pick (.t 9) (.t 15) (.k (.one (.iv (.bool false)))), [], none⟩,
    ⟨some 2, .mov none (.t 16), [], none⟩])
  (.ret))
def v163 : VFn := ⟨1, 17, [.t 2], b163⟩

theorem c163 : chkFn Try.prog 163 v163 = true := by kernel_rfl

/- scholia/scholiaref03.Next -/
def l164_0 : VCode := .seq (.region false [⟨some 22, .bin .lss (.t 21) (.k (.one (.iv (.int .i64 4)))), [], none⟩])
  (.seq (.cond (.t 22) (.skip) (.exit 0))
  (.seq (.block 1 (.seq (.region false [⟨some 23, .mov none (.t 21), [], none⟩,
    ⟨some 7, .mov none (.t 23), [], none⟩])
  (.seq (.region false [⟨some 24, .mov none (.t 7), [], none⟩,
    ⟨some 25, .bin .add (.t 24) (.k (.one (.iv (.int .i64 1)))), [], none⟩,
    ⟨some 8, .mov none (.t 25), [], none⟩])
  (.seq (.seq (.region false [⟨some 26, .mov none (.t 8), [], none⟩,
    ⟨some 27, .mov none (.t 6), [], none⟩,
    ⟨some 28, .blt .lenS [.t 27], [], none⟩,
    ⟨some 29, .bin .gtr (.t 26) (.t 28), [], none⟩])
  (.cond (.t 29) (.seq (.region false [⟨some 4, .mov none (.k (.one (.iv (.int .i64 (-1))))), [], none⟩,
    ⟨some 5, .mov none (.k (.one (.iv (.int .i64 1)))), [], none⟩])
  (.ret)) (.skip)))
  (.seq (.region false [⟨some 9, .mov none (.k (.one (.iv (.int .i64 0)))), [], none⟩])
  (.seq (.seq (.region false [⟨some 30, .mov none (.t 8), [], none⟩,
    ⟨some 31, .bin .eql (.t 30) (.k (.one (.iv (.int .i64 1)))), [], none⟩])
  (.cond (.t 31) (.region false [⟨some 32, .mov none (.t 6), [], none⟩,
    ⟨some 33, .ixT (.t 32) (.k (.one (.iv (.int .i64 0)))), [], none⟩,
    ⟨some 34, .conv .i64 (.t 33), [], none⟩,
    ⟨some 9, .mov none (.t 34), [], none⟩]) (.skip)))
  (.seq (.seq (.region false [⟨some 35, .mov none (.t 8), [], none⟩,
    ⟨some 36, .bin .eql (.t 35) (.k (.one (.iv (.int .i64 2)))), [], none⟩])
  (.cond (.t 36) (.region true [⟨some 37, .mov none (.t 6), [], none⟩,
    ⟨some 38, .ixT (.t 37) (.k (.one (.iv (.int .i64 0)))), [0], none⟩,
    ⟨some 39, .conv .i64 (.t 38), [1], none⟩,
    ⟨some 40, .bin .rem (.t 39) (.k (.one (.iv (.int .i64 32)))), [2], none⟩,
    ⟨some 41, .bin .mul (.t 40) (.k (.one (.iv (.int .i64 64)))), [3], none⟩,
    ⟨some 42, .mov none (.t 6), [], none⟩,
    ⟨some 43, .ixT (.t 42) (.k (.one (.iv (.int .i64 1)))), [5], none⟩,
    ⟨some 44, .call 165 [(false, .t 43)], [6], none⟩,
    ⟨some 45, .bin .add (.t 41) (.t 44), [7, 4], none⟩,
    ⟨some 9, .mov none (.t 45), [8], none⟩]) (.skip)))
  (.seq (.seq (.region false [⟨some 46, .mov none (.t 8), [], none⟩,
    ⟨some 47, .bin .eql (.t 46) (.k (.one (.iv (.int .i64 3)))), [], none⟩])
  (.cond (.t 47) (.region true [⟨some 48, .mov none (.t 6), [], none⟩,
    ⟨some 49, .ixT (.t 48) (.k (.one (.iv (.int .i64 0)))), [0], none⟩,
    ⟨some 50, .conv .i64 (.t 49), [1], none⟩,
    ⟨some 51, .bin .rem (.t 50) (.k (.one (.iv (.int .i64 16)))), [2], none⟩,
    ⟨some 52, .bin .mul (.t 51) (.k (.one (.iv (.int .i64 4096)))), [3], none⟩,
    ⟨some 53, .mov none (.t 6), [], none⟩,
    ⟨some 54, .ixT (.t 53) (.k (.one (.iv (.int .i64 1)))), [5], none⟩,
    ⟨some 55, .call 165 [(false, .t 54)], [6], none⟩,
    ⟨some 56, .bin .mul (.t 55) (.k (.one (.iv (.int .i64 64)))), [7], none⟩,
    ⟨some 57, .bin .add (.t 52) (.t 56), [8, 4], none⟩,
    ⟨some 58, .mov none (.t 6), [], none⟩,
    ⟨some 59, .ixT (.t 58) (.k (.one (.iv (.int .i64 2)))), [10], none⟩,
    ⟨some 60, .call 165 [(false, .t 59)], [11, 7], none⟩,
    ⟨some 61, .bin .add (.t 57) (.t 60), [12, 9], none⟩,
    ⟨some 9, .mov none (.t 61), [13], none⟩]) (.skip)))
  (.seq (.seq (.region false [⟨some 62, .mov none (.t 8), [], none⟩,
    ⟨some 63, .bin .eql (.t 62) (.k (.one (.iv (.int .i64 4)))), [], none⟩])
  (.cond (.t 63) (.region true [⟨some 64, .mov none (.t 6), [], none⟩,
    ⟨some 65, .ixT (.t 64) (.k (.one (.iv (.int .i64 0)))), [0], none⟩,
    ⟨some 66, .conv .i64 (.t 65), [1], none⟩,
    ⟨some 67, .bin .rem (.t 66) (.k (.one (.iv (.int .i64 8)))), [2], none⟩,
    ⟨some 68, .bin .mul (.t 67) (.k (.one (.iv (.int .i64 262144)))), [3], none⟩,
    ⟨some 69, .mov none (.t 6), [], none⟩,
    ⟨some 70, .ixT (.t 69) (.k (.one (.iv (.int .i64 1)))), [5], none⟩,
    ⟨some 71, .call 165 [(false, .t 70)], [6], none⟩,
    ⟨some 72, .bin .mul (.t 71) (.k (.one (.iv (.int .i64 4096)))), [7], none⟩,
    ⟨some 73, .bin .add (.t 68) (.t 72), [8, 4], none⟩,
    ⟨some 74, .mov none (.t 6), [], none⟩,
    ⟨some 75, .ixT (.t 74) (.k (.one (.iv (.int .i64 2)))), [10], none⟩,
    ⟨some 76, .call 165 [(false, .t 75)], [11, 7], none⟩,
    ⟨some 77, .bin .mul (.t 76) (.k (.one (.iv (.int .i64 64)))), [12], none⟩,
    ⟨some 78, .bin .add (.t 73) (.t 77), [13, 9], none⟩,
    ⟨some 79, .mov none (.t 6), [], none⟩,
    ⟨some 80, .ixT (.t 79) (.k (.one (.iv (.int .i64 3)))), [15], none⟩,
    ⟨some 81, .call 165 [(false, .t 80)], [16, 12], none⟩,
    ⟨some 82, .bin .add (.t 78) (.t 81), [17, 14], none⟩,
    ⟨some 9, .mov none (.t 82), [18], none⟩]) (.skip)))
  (.seq (.region true [⟨some 83, .mov none (.t 9), [], none⟩,
    ⟨some 84, .call 166 [(false, .t 83)], [0], none⟩,
    ⟨some 85, .b2s (.t 84), [1], none⟩,
    ⟨some 86, .mov none (.t 6), [], none⟩,
    ⟨some 87, .mov none (.t 8), [], none⟩,
    ⟨some 88, .slT (.t 86) none (some (.t 87)), [4, 3], none⟩,
    ⟨some 89, .bin .eql (.t 85) (.t 88), [5, 2], none⟩])
  (.cond (.t 89) (.seq (.region false [⟨some 90, .mov none (.t 9), [], none⟩,
    ⟨some 91, .mov none (.t 8), [], none⟩,
    ⟨some 4, .mov none (.t 90), [], none⟩,
    ⟨some 5, .mov none (.t 91), [], none⟩])
  (.ret)) (.skip))))))))))))
  (.region false [⟨some 92, .bin .add (.t 21) (.k (.one (.iv (.int .i64 1)))), [], none⟩,
    ⟨some 21, .mov none (.t 92), [], none⟩])))
def b164 : VCode := .seq (.region false [⟨some 4, .mov none (.k (.one (.iv (.int .i64 0)))), [], none⟩,
    ⟨some 5, .mov none (.k (.one (.iv (.int .i64 0)))), [], none⟩])
  (.seq (.seq (.region false [⟨some 10, .mov none (.t 1), [], none⟩,
    ⟨some 11, .bin .lss (.t 10) (.k (.one (.iv (.int .i64 0)))), [], none⟩,
    ⟨some 12, .mov none (.t 11), [], none⟩,
    ⟨some 13, .mov none (.t 1), [], some (12, false)⟩,
    ⟨some 14, .mov none (.t 0), [], some (12, false)⟩,
    ⟨some 15, .blt .lenS [.t 14], [], some (12, false)⟩,
    ⟨some 16, .bin .geq (.t 13) (.t 15), [], some (12, false)⟩,
    ⟨some 17, .pick (.t 12) (.k (.one (.iv (.bool true)))) (.t 16), [], none⟩])
  (.cond (.t 17) (.seq (.region false [⟨some 4, .mov none (.k (.one (.iv (.int .i64 (-1))))), [], none⟩,
    ⟨some 5, .mov none (.k (.one (.iv (.int .i64 0)))), [], none⟩])
  (.ret)) (.skip)))
  (.seq (.region false [⟨some 18, .mov none (.t 0), [], none⟩,
    ⟨some 19, .mov none (.t 1), [], none⟩,
    ⟨some 20, .slT (.t 18) (some (.t 19)) none, [], none⟩,
    ⟨some 6, .mov none (.t 20), [], none⟩])
  (.seq (.seq (.region false [⟨some 21, .mov none (.k (.one (.iv (.int .i64 0)))), [], none⟩])
  (.block 0 (.loop false [6, 21] l164_0)))
  (.seq (.region false [⟨some 4, .mov none (.k (.one (.iv (.int .i64 (-1))))), [], none⟩,
    ⟨some 5, .mov none (.k (.one (.iv (.int .i64 1)))), [], none⟩])
  (.ret)))))
def v164 : VFn := ⟨2, 93, [.t 4, .t 5], b164⟩

theorem c164 : chkFn Try.prog 164 v164 = true := by kernel_rfl

/- scholia/scholiaref03.value -/
def b165 : VCode := .seq (.region false [⟨some 2, .mov none (.k (.one (.iv (.int .i64 0)))), [], none⟩])
  (.seq (.region false [⟨some 3, .mov none (.t 0), [], none⟩,
    ⟨some 4, .conv .i64 (.t 3), [], none⟩,
    ⟨some 5, .bin .rem (.t 4) (.k (.one (.iv (.int .i64 64)))), [], none⟩,
    ⟨some 2, .mov none (.t 5), [], none⟩])
  (.ret))
def v165 : VFn := ⟨1, 6, [.t 2], b165⟩

theorem c165 : chkFn Try.prog 165 v165 = true := by kernel_rfl

/- scholia/scholiaref03.Bytes -/
def b166 : VCode := .seq (.region false [⟨some 2, .mov none (.k (.one (.iv (.sl true 0 [])))), [], none⟩])
  (.seq (.seq (.region false [⟨some 3, .mov none (.t 0), [], none⟩,
    ⟨some 4, .call 167 [(false, .t 3)], [], none⟩,
    ⟨some 5, .un .not (.t 4), [], none⟩])
  (.cond (.t 5) (.seq (.region false [⟨some 2, .mov none (.k (.one (.iv (.sl true 0 [])))), [], none⟩])
  (.ret)) (.skip)))
  (.seq (.seq (.region false [⟨some 6, .mov none (.t 0), [], none⟩,
    ⟨some 7, .bin .leq (.t 6) (.k (.one (.iv (.int .i64 127)))), [], none⟩])
  (.cond (.t 7) (.seq (.region false [⟨some 8, .mov none (.t 0), [], none⟩,
    ⟨some 9, .conv .u8 (.t 8), [], none⟩,
    ⟨some 10, .mks false 1 [.t 9], [], none⟩,
    ⟨some 2, .mov none (.t 10), [], none⟩])
  (.ret)) (.skip)))
  (.seq (.seq (.region false [⟨some 11, .mov none (.t 0), [], none⟩,
    ⟨some 12, .bin .leq (.t 11) (.k (.one (.iv (.int .i64 2047)))), [], none⟩])
  (.cond (.t 12) (.seq (.region false [⟨some 13, .mov none (.t 0), [], none⟩,
    ⟨some 14, .bin .quo (.t 13) (.k (.one (.iv (.int .i64 64)))), [], none⟩,
    ⟨some 15, .bin .add (.k (.one (.iv (.int .i64 192)))) (.t 14), [], none⟩,
    ⟨some 16, .conv .u8 (.t 15), [], none⟩,
    ⟨some 17, .mov none (.t 0), [], none⟩,
    ⟨some 18, .bin .rem (.t 17) (.k (.one (.iv (.int .i64 64)))), [], none⟩,
    ⟨some 19, .bin .add (.k (.one (.iv (.int .i64 128)))) (.t 18), [], none⟩,
    ⟨some 20, .conv .u8 (.t 19), [], none⟩,
    ⟨some 21, .mks false 1 [.t 16, .t 20], [], none⟩,
    ⟨some 2, .mov none (.t 21), [], none⟩])
  (.ret)) (.skip)))
  (.seq (.seq (.region false [⟨some 22, .mov none (.t 0), [], none⟩,
    ⟨some 23, .bin .leq (.t 22) (.k (.one (.iv (.int .i64 65535)))), [], none⟩])
  (.cond (.t 23) (.seq (.region false [⟨some 24, .mov none (.t 0), [], none⟩,
    ⟨some 25, .bin .quo (.t 24) (.k (.one (.iv (.int .i64 4096)))), [], none⟩,
    ⟨some 26, .bin .add (.k (.one (.iv (.int .i64 224)))) (.t 25), [], none⟩,
    ⟨some 27, .conv .u8 (.t 26), [], none⟩,
    ⟨some 28, .mov none (.t 0), [], none⟩,
    ⟨some 29, .bin .quo (.t 28) (.k (.one (.iv (.int .i64 64)))), [], none⟩,
    ⟨some 30, .bin .rem (.t 29) (.k (.one (.iv (.int .i64 64)))), [], none⟩,
    ⟨some 31, .bin .add (.k (.one (.iv (.int .i64 128)))) (.t 30), [], none⟩,
    ⟨some 32, .conv .u8 (.t 31), [], none⟩,
    ⟨some 33, .mov none (.t 0), [], none⟩,
    ⟨some 34, .bin .rem (.t 33) (.k (.one (.iv (.int .i64 64)))), [], none⟩,
    ⟨some 35, .bin .add (.k (.one (.iv (.int .i64 128)))) (.t 34), [], none⟩,
    ⟨some 36, .conv .u8 (.t 35), [], none⟩,
    ⟨some 37, .mks false 1 [.t 27, .t 32, .t 36], [], none⟩,
    ⟨some 2, .mov none (.t 37), [], none⟩])
  (.ret)) (.skip)))
  (.seq (.region false [⟨some 38, .mov none (.t 0), [], none⟩,
    ⟨some 39, .bin .quo (.t 38) (.k (.one (.iv (.int .i64 262144)))), [], none⟩,
    ⟨some 40, .bin .add (.k (.one (.iv (.int .i64 240)))) (.t 39), [], none⟩,
    ⟨some 41, .conv .u8 (.t 40), [], none⟩,
    ⟨some 42, .mov none (.t 0), [], none⟩,
    ⟨some 43, .bin .quo (.t 42) (.k (.one (.iv (.int .i64 4096)))), [], none⟩,
    ⟨some 44, .bin .rem (.t 43) (.k (.one (.iv (.int .i64 64)))), [], none⟩,
    ⟨some 45, .bin .add (.k (.one (.iv (.int .i64 128)))) (.t 44), [], none⟩,
    ⟨some 46, .conv .u8 (.t 45), [], none⟩,
    ⟨some 47, .mov none (.t 0), [], none⟩,
    ⟨some 48, .bin .quo (.t 47) (.k (.one (.iv (.int .i64 64)))), [], none⟩,
    ⟨some 49, .bin .rem (.t 48) (.k (.one (.iv (.int .i64 64)))), [], none⟩,
    ⟨some 50, .bin .add (.k (.one (.iv (.int .i64 128)))) (.t 49), [], none⟩,
    ⟨some 51, .conv .u8 (.t 50), [], none⟩,
    ⟨some 52, .mov none (.t 0), [], none⟩,
    ⟨some 53, .bin .rem (.t 52) (.k (.one (.iv (.int .i64 64)))), [], none⟩,
    ⟨some 54, .bin .add (.k (.one (.iv (.int .i64 128)))) (.t 53), [], none⟩,
    ⟨some 55, .conv .u8 (.t 54), [], none⟩,
    ⟨some 56, .mks false 1 [.t 41, .t 46, .t 51, .t 55], [], none⟩,
    ⟨some 2, .mov none (.t 56), [], none⟩])
  (.ret))))))
def v166 : VFn := ⟨1, 57, [.t 2], b166⟩

theorem c166 : chkFn Try.prog 166 v166 = true := by kernel_rfl

/- scholia/scholiaref03.Sign -/
def b167 : VCode := .seq (.region false [⟨some 2, .mov none (.k (.one (.iv (.bool false)))), [], none⟩])
  (.seq (.region false [⟨some 3, .mov none (.t 0), [], none⟩,
    ⟨some 4, .bin .geq (.t 3) (.k (.one (.iv (.int .i64 0)))), [], none⟩,
    ⟨some 5, .mov none (.t 4), [], none⟩,
    ⟨some 6, .mov none (.t 0), [], some (5, true)⟩,
    ⟨some 7, .bin .lss (.t 6) (.k (.one (.iv (.int .i64 55296)))), [], some (5, true)⟩,
    ⟨some 8, .pick (.t 5) (.t 7) (.k (.one (.iv (.bool false)))), [], none⟩,
    ⟨some 9, .mov none (.t 8), [], none⟩,
    ⟨some 10, .mov none (.t 0), [], some (9, false)⟩,
    ⟨some 11, .bin .gtr (.t 10) (.k (.one (.iv (.int .i64 57343)))), [], some (9, false)⟩,
    ⟨some 12, .mov none (.t 11), [], some (9, false)⟩,
    ⟨some 13, .mov none (.t 0), [], some (12, true)⟩,
    ⟨some 14, .bin .leq (.t 13) (.k (.one (.iv (.int .i64 1114111)))), [], some (12, true)⟩,
    ⟨some 15, .pick (.t 12) (.t 14) (.k (.one (.iv (.bool false)))), [], some (9, false)⟩,
    ⟨some 16, .pick (.t 9) (.k (.one (.iv (.bool true)))) (.t 15), [], none⟩,
    ⟨some 2, .mov none (.t 16), [], none⟩])
  (.ret))
def v167 : VFn := ⟨1, 17, [.t 2], b167⟩

theorem c167 : chkFn Try.prog 167 v167 = true := by kernel_rfl

def tab : List (Nat × VFn) := [(16, v16), (17, v17), (18, v18), (19, v19), (20, v20), (23, v23), (45, v45), (47, v47), (48, v48), (50, v50), (53, v53), (54, v54), (55, v55), (57, v57), (65, v65), (70, v70), (71, v71), (72, v72), (73, v73), (74, v74), (75, v75), (76, v76), (77, v77), (90, v90), (92, v92), (94, v94), (96, v96), (97, v97), (105, v105), (106, v106), (107, v107), (108, v108), (109, v109), (110, v110), (111, v111), (112, v112), (113, v113), (121, v121), (122, v122), (123, v123), (124, v124), (125, v125), (126, v126), (129, v129), (130, v130), (131, v131), (132, v132), (133, v133), (134, v134), (135, v135), (136, v136), (137, v137), (148, v148), (149, v149), (150, v150), (151, v151), (152, v152), (158, v158), (159, v159), (160, v160), (162, v162), (163, v163), (164, v164), (165, v165), (166, v166), (167, v167)]

theorem tab_ok : TabOK Try.prog (lookT tab) := tabOK_cons c16 (tabOK_cons c17 (tabOK_cons c18 (tabOK_cons c19 (tabOK_cons c20 (tabOK_cons c23 (tabOK_cons c45 (tabOK_cons c47 (tabOK_cons c48 (tabOK_cons c50 (tabOK_cons c53 (tabOK_cons c54 (tabOK_cons c55 (tabOK_cons c57 (tabOK_cons c65 (tabOK_cons c70 (tabOK_cons c71 (tabOK_cons c72 (tabOK_cons c73 (tabOK_cons c74 (tabOK_cons c75 (tabOK_cons c76 (tabOK_cons c77 (tabOK_cons c90 (tabOK_cons c92 (tabOK_cons c94 (tabOK_cons c96 (tabOK_cons c97 (tabOK_cons c105 (tabOK_cons c106 (tabOK_cons c107 (tabOK_cons c108 (tabOK_cons c109 (tabOK_cons c110 (tabOK_cons c111 (tabOK_cons c112 (tabOK_cons c113 (tabOK_cons c121 (tabOK_cons c122 (tabOK_cons c123 (tabOK_cons c124 (tabOK_cons c125 (tabOK_cons c126 (tabOK_cons c129 (tabOK_cons c130 (tabOK_cons c131 (tabOK_cons c132 (tabOK_cons c133 (tabOK_cons c134 (tabOK_cons c135 (tabOK_cons c136 (tabOK_cons c137 (tabOK_cons c148 (tabOK_cons c149 (tabOK_cons c150 (tabOK_cons c151 (tabOK_cons c152 (tabOK_cons c158 (tabOK_cons c159 (tabOK_cons c160 (tabOK_cons c162 (tabOK_cons c163 (tabOK_cons c164 (tabOK_cons c165 (tabOK_cons c166 (tabOK_cons c167 tabOK_nil)))))))))))))))))))))))))))))))))))))))))))))))))))))))))))))))))

def clones : List (Nat × Nat × Nat) := [(83, 2, 16), (49, 1, 1)]

theorem clones_ok : chkClones Try.prog clones = true := by kernel_rfl

theorem mixed : Try.prog.follows .mixedOrders = true := by kernel_rfl

theorem pr_ok : PrOK Try.prog (fun _ => clonePr clones) := fun _ _ _ => clonePr_ok mixed clones_ok

theorem pr_mono : PrMono (fun _ => clonePr clones) := const_mono

abbrev Pl (f : Nat) (vs : List FV) (v : FV) (bs : List Blk) : Prop := Plays (lookT tab) (fun _ => clonePr clones) f vs [] (v, bs)

end Go.Proofs.Ytomchclmnmhjaaa
