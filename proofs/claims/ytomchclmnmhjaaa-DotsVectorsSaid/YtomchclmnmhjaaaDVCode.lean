/- The code of the functions that a statement reaches, as V-code, checked against the program. Printed by a program. -/
import Derived.Test.YtomchclmnmhjaaaV3
import Derived.Test.YtomchclmnmhjaaaChecked
import Derived.KernelRfl
set_option maxRecDepth 100000
namespace Go.Proofs.Ytomchclmnmhjaaa
open Go GoV

/- scholia/scholialaw08.DotsVectors -/
def b5 : VCode := .seq (.region false [⟨some 2, .box (.t 0), [], none⟩,
    ⟨some 3, .box (.t 1), [], none⟩,
    ⟨some 4, .mov none (.k (.one (.iv (.bool false)))), [], none⟩])
  (.seq (.region true [⟨some 6, .load true 64 (.t 2), [], none⟩,
    ⟨some 7, .load true 64 (.t 3), [], none⟩,
    ⟨some 8, .call 26 [(false, .t 6), (false, .t 7)], [1, 0], none⟩,
    ⟨some 9, .load true 64 (.t 2), [], none⟩,
    ⟨some 10, .load true 64 (.t 3), [], none⟩,
    ⟨some 11, .call 29 [(false, .t 9), (false, .t 10)], [4, 3, 2], none⟩,
    ⟨some 12, .eqa .eql (List.replicate 64 .int) (.t 8) (.t 11), [5], none⟩,
    ⟨some 13, .mov none (.t 12), [6], none⟩,
    ⟨some 14, .load true 64 (.t 2), [7], some (13, true)⟩,
    ⟨some 15, .load true 64 (.t 3), [7], some (13, true)⟩,
    ⟨some 16, .call 27 [(false, .t 14), (false, .t 15)], [9, 8], some (13, true)⟩,
    ⟨some 17, .load true 64 (.t 2), [7], some (13, true)⟩,
    ⟨some 18, .load true 64 (.t 3), [7], some (13, true)⟩,
    ⟨some 19, .call 30 [(false, .t 17), (false, .t 18)], [12, 11, 10], some (13, true)⟩,
    ⟨some 20, .eqa .eql (List.replicate 64 .int) (.t 16) (.t 19), [13], some (13, true)⟩,
    ⟨some 21, .pick (.t 13) (.t 20) (.k (.one (.iv (.bool false)))), [14], none⟩,
    ⟨some 5, .mov none (.t 21), [15], none⟩])
  (.seq (.region true [⟨some 22, .mov none (.t 5), [], none⟩,
    ⟨some 23, .mov none (.t 22), [0], none⟩,
    ⟨some 24, .load true 64 (.t 2), [1], some (23, true)⟩,
    ⟨some 25, .load true 64 (.t 3), [1], some (23, true)⟩,
    ⟨some 26, .call 28 [(false, .t 24), (false, .t 25)], [3, 2], some (23, true)⟩,
    ⟨some 27, .load true 64 (.t 2), [1], some (23, true)⟩,
    ⟨some 28, .load true 64 (.t 3), [1], some (23, true)⟩,
    ⟨some 29, .call 31 [(false, .t 27), (false, .t 28)], [6, 5, 4], some (23, true)⟩,
    ⟨some 30, .eqs .eql .bool (.t 26) (.t 29), [7], some (23, true)⟩,
    ⟨some 31, .pick (.t 23) (.t 30) (.k (.one (.iv (.bool false)))), [8], none⟩,
    ⟨some 32, .mov none (.t 31), [9], none⟩,
    ⟨some 33, .load true 64 (.t 2), [10], some (32, true)⟩,
    ⟨some 34, .call 32 [(false, .t 33)], [11], some (32, true)⟩,
    ⟨some 35, .load true 64 (.t 2), [10], some (32, true)⟩,
    ⟨some 36, .call 33 [(false, .t 35)], [13, 12], some (32, true)⟩,
    ⟨some 37, .eqs .eql .bool (.t 34) (.t 36), [14], some (32, true)⟩,
    ⟨some 38, .pick (.t 32) (.t 37) (.k (.one (.iv (.bool false)))), [15], none⟩,
    ⟨some 39, .mov none (.t 38), [16], none⟩,
    ⟨some 40, .call 25 [], [17], some (39, true)⟩,
    ⟨some 41, .pick (.t 39) (.t 40) (.k (.one (.iv (.bool false)))), [18], none⟩,
    ⟨some 4, .mov none (.t 41), [19], none⟩])
  (.ret)))
def v5 : VFn := ⟨2, 42, [.t 4], b5⟩

theorem c5 : chkFn Try.prog 5 v5 = true := by kernel_rfl

/- scholia/dots.Join -/
def b26 : VCode := .seq (.region false [⟨some 2, .box (.t 0), [], none⟩,
    ⟨some 3, .box (.t 1), [], none⟩,
    ⟨some 4, .new [.iv (.arr 64 (List.replicate 64 (.int .i64 0)))], [], none⟩])
  (.seq (.region false [⟨some 5, .load true 64 (.t 2), [], none⟩,
    ⟨some 6, .load true 64 (.t 3), [], none⟩,
    ⟨some 7, .call 78 [(false, .t 5), (false, .t 6), (false, .k (.one (.iv (.fn 79))))], [], none⟩,
    ⟨none, .store 64 (.t 4) (.t 7), [], none⟩])
  (.ret))
def v26 : VFn := ⟨2, 8, [.c 4 true 64], b26⟩

theorem c26 : chkFn Try.prog 26 v26 = true := by kernel_rfl

/- scholia/dots.Meet -/
def b27 : VCode := .seq (.region false [⟨some 2, .box (.t 0), [], none⟩,
    ⟨some 3, .box (.t 1), [], none⟩,
    ⟨some 4, .new [.iv (.arr 64 (List.replicate 64 (.int .i64 0)))], [], none⟩])
  (.seq (.region false [⟨some 5, .load true 64 (.t 2), [], none⟩,
    ⟨some 6, .load true 64 (.t 3), [], none⟩,
    ⟨some 7, .call 78 [(false, .t 5), (false, .t 6), (false, .k (.one (.iv (.fn 80))))], [], none⟩,
    ⟨none, .store 64 (.t 4) (.t 7), [], none⟩])
  (.ret))
def v27 : VFn := ⟨2, 8, [.c 4 true 64], b27⟩

theorem c27 : chkFn Try.prog 27 v27 = true := by kernel_rfl

/- scholia/dots.Within -/
def b28 : VCode := .seq (.region false [⟨some 2, .box (.t 0), [], none⟩,
    ⟨some 3, .box (.t 1), [], none⟩,
    ⟨some 4, .mov none (.k (.one (.iv (.bool false)))), [], none⟩])
  (.seq (.region true [⟨some 5, .load true 64 (.t 2), [], none⟩,
    ⟨some 6, .load true 64 (.t 3), [], none⟩,
    ⟨some 7, .call 26 [(false, .t 5), (false, .t 6)], [1, 0], none⟩,
    ⟨some 8, .load true 64 (.t 3), [], none⟩,
    ⟨some 9, .eqa .eql (List.replicate 64 .int) (.t 7) (.t 8), [3, 2], none⟩,
    ⟨some 4, .mov none (.t 9), [4], none⟩])
  (.ret))
def v28 : VFn := ⟨2, 10, [.t 4], b28⟩

theorem c28 : chkFn Try.prog 28 v28 = true := by kernel_rfl

/- scholia/scholiaref08.Join -/
def l29_0 : VCode := .seq (.region false [⟨some 9, .bin .lss (.t 8) (.k (.one (.iv (.int .i64 64)))), [], none⟩])
  (.seq (.cond (.t 9) (.skip) (.exit 0))
  (.seq (.block 1 (.seq (.region false [⟨some 10, .mov none (.t 8), [], none⟩,
    ⟨some 11, .ixV 64 (.t 7) (.t 8), [], none⟩,
    ⟨some 5, .mov none (.t 10), [], none⟩,
    ⟨some 6, .mov none (.t 11), [], none⟩])
  (.seq (.region false [⟨some 12, .mov none (.t 6), [], none⟩,
    ⟨some 13, .mov none (.t 5), [], none⟩,
    ⟨some 14, .ixA 64 1 (.t 2) (.t 13), [], none⟩,
    ⟨some 15, .load false 1 (.t 14), [], none⟩,
    ⟨some 16, .bin .gtr (.t 12) (.t 15), [], none⟩])
  (.cond (.t 16) (.region false [⟨some 17, .mov none (.t 5), [], none⟩,
    ⟨some 18, .mov none (.t 6), [], none⟩,
    ⟨some 19, .ixA 64 1 (.t 2) (.t 17), [], none⟩,
    ⟨none, .store 1 (.t 19) (.t 18), [], none⟩]) (.skip)))))
  (.region false [⟨some 20, .bin .add (.t 8) (.k (.one (.iv (.int .i64 1)))), [], none⟩,
    ⟨some 8, .mov none (.t 20), [], none⟩])))
def b29 : VCode := .seq (.region false [⟨some 2, .box (.t 0), [], none⟩,
    ⟨some 3, .box (.t 1), [], none⟩,
    ⟨some 4, .new [.iv (.arr 64 (List.replicate 64 (.int .i64 0)))], [], none⟩])
  (.seq (.seq (.region false [⟨some 7, .load true 64 (.t 3), [], none⟩,
    ⟨some 8, .mov none (.k (.one (.iv (.int .i64 0)))), [], none⟩])
  (.block 0 (.loop false [2, 4, 7, 8] l29_0)))
  (.seq (.region false [⟨some 21, .load true 64 (.t 2), [], none⟩,
    ⟨none, .store 64 (.t 4) (.t 21), [], none⟩])
  (.ret)))
def v29 : VFn := ⟨2, 22, [.c 4 true 64], b29⟩

theorem c29 : chkFn Try.prog 29 v29 = true := by kernel_rfl

/- scholia/scholiaref08.Meet -/
def l30_0 : VCode := .seq (.region false [⟨some 9, .bin .lss (.t 8) (.k (.one (.iv (.int .i64 64)))), [], none⟩])
  (.seq (.cond (.t 9) (.skip) (.exit 0))
  (.seq (.block 1 (.seq (.region false [⟨some 10, .mov none (.t 8), [], none⟩,
    ⟨some 11, .ixV 64 (.t 7) (.t 8), [], none⟩,
    ⟨some 5, .mov none (.t 10), [], none⟩,
    ⟨some 6, .mov none (.t 11), [], none⟩])
  (.seq (.region false [⟨some 12, .mov none (.t 6), [], none⟩,
    ⟨some 13, .mov none (.t 5), [], none⟩,
    ⟨some 14, .ixA 64 1 (.t 2) (.t 13), [], none⟩,
    ⟨some 15, .load false 1 (.t 14), [], none⟩,
    ⟨some 16, .bin .lss (.t 12) (.t 15), [], none⟩])
  (.cond (.t 16) (.region false [⟨some 17, .mov none (.t 5), [], none⟩,
    ⟨some 18, .mov none (.t 6), [], none⟩,
    ⟨some 19, .ixA 64 1 (.t 2) (.t 17), [], none⟩,
    ⟨none, .store 1 (.t 19) (.t 18), [], none⟩]) (.skip)))))
  (.region false [⟨some 20, .bin .add (.t 8) (.k (.one (.iv (.int .i64 1)))), [], none⟩,
    ⟨some 8, .mov none (.t 20), [], none⟩])))
def b30 : VCode := .seq (.region false [⟨some 2, .box (.t 0), [], none⟩,
    ⟨some 3, .box (.t 1), [], none⟩,
    ⟨some 4, .new [.iv (.arr 64 (List.replicate 64 (.int .i64 0)))], [], none⟩])
  (.seq (.seq (.region false [⟨some 7, .load true 64 (.t 3), [], none⟩,
    ⟨some 8, .mov none (.k (.one (.iv (.int .i64 0)))), [], none⟩])
  (.block 0 (.loop false [2, 4, 7, 8] l30_0)))
  (.seq (.region false [⟨some 21, .load true 64 (.t 2), [], none⟩,
    ⟨none, .store 64 (.t 4) (.t 21), [], none⟩])
  (.ret)))
def v30 : VFn := ⟨2, 22, [.c 4 true 64], b30⟩

theorem c30 : chkFn Try.prog 30 v30 = true := by kernel_rfl

/- scholia/scholiaref08.Within -/
def l31_0 : VCode := .seq (.region false [⟨some 9, .bin .lss (.t 8) (.k (.one (.iv (.int .i64 64)))), [], none⟩])
  (.seq (.cond (.t 9) (.skip) (.exit 0))
  (.seq (.block 1 (.seq (.region false [⟨some 10, .mov none (.t 8), [], none⟩,
    ⟨some 11, .ixV 64 (.t 7) (.t 8), [], none⟩,
    ⟨some 5, .mov none (.t 10), [], none⟩,
    ⟨some 6, .mov none (.t 11), [], none⟩])
  (.seq (.region false [⟨some 12, .mov none (.t 6), [], none⟩,
    ⟨some 13, .mov none (.t 5), [], none⟩,
    ⟨some 14, .ixA 64 1 (.t 3) (.t 13), [], none⟩,
    ⟨some 15, .load false 1 (.t 14), [], none⟩,
    ⟨some 16, .bin .gtr (.t 12) (.t 15), [], none⟩])
  (.cond (.t 16) (.seq (.region false [⟨some 4, .mov none (.k (.one (.iv (.bool false)))), [], none⟩])
  (.ret)) (.skip)))))
  (.region false [⟨some 17, .bin .add (.t 8) (.k (.one (.iv (.int .i64 1)))), [], none⟩,
    ⟨some 8, .mov none (.t 17), [], none⟩])))
def b31 : VCode := .seq (.region false [⟨some 2, .box (.t 0), [], none⟩,
    ⟨some 3, .box (.t 1), [], none⟩,
    ⟨some 4, .mov none (.k (.one (.iv (.bool false)))), [], none⟩])
  (.seq (.seq (.region false [⟨some 7, .load true 64 (.t 2), [], none⟩,
    ⟨some 8, .mov none (.k (.one (.iv (.int .i64 0)))), [], none⟩])
  (.block 0 (.loop false [3, 7, 8] l31_0)))
  (.seq (.region false [⟨some 4, .mov none (.k (.one (.iv (.bool true)))), [], none⟩])
  (.ret)))
def v31 : VFn := ⟨2, 18, [.t 4], b31⟩

theorem c31 : chkFn Try.prog 31 v31 = true := by kernel_rfl

/- scholia/dots.Good -/
def b32 : VCode := .seq (.region false [⟨some 1, .box (.t 0), [], none⟩,
    ⟨some 2, .mov none (.k (.one (.iv (.bool false)))), [], none⟩])
  (.seq (.region false [⟨some 3, .load true 64 (.t 1), [], none⟩,
    ⟨some 4, .call 81 [(false, .t 3)], [], none⟩,
    ⟨some 2, .mov none (.t 4), [], none⟩])
  (.ret))
def v32 : VFn := ⟨1, 5, [.t 2], b32⟩

theorem c32 : chkFn Try.prog 32 v32 = true := by kernel_rfl

/- scholia/scholiaref08.Good -/
def l33_0 : VCode := .seq (.region false [⟨some 7, .bin .lss (.t 6) (.k (.one (.iv (.int .i64 64)))), [], none⟩])
  (.seq (.cond (.t 7) (.skip) (.exit 0))
  (.seq (.block 1 (.seq (.region false [⟨some 8, .ixV 64 (.t 5) (.t 6), [], none⟩,
    ⟨some 4, .mov none (.t 8), [], none⟩])
  (.seq (.region false [⟨some 9, .mov none (.t 4), [], none⟩,
    ⟨some 10, .bin .lss (.t 9) (.k (.one (.iv (.int .i64 0)))), [], none⟩,
    ⟨some 11, .mov none (.t 10), [], none⟩,
    ⟨some 12, .mov none (.t 4), [], some (11, false)⟩,
    ⟨some 13, .bin .gtr (.t 12) (.k (.one (.iv (.int .i64 1073741824)))), [], some (11, false)⟩,
    ⟨some 14, .pick (.t 11) (.k (.one (.iv (.bool true)))) (.t 13), [], none⟩])
  (.cond (.t 14) (.seq (.region false [⟨some 2, .mov none (.k (.one (.iv (.bool false)))), [], none⟩])
  (.ret)) (.skip)))))
  (.region false [⟨some 15, .bin .add (.t 6) (.k (.one (.iv (.int .i64 1)))), [], none⟩,
    ⟨some 6, .mov none (.t 15), [], none⟩])))
def b33 : VCode := .seq (.region false [⟨some 1, .box (.t 0), [], none⟩,
    ⟨some 2, .mov none (.k (.one (.iv (.bool false)))), [], none⟩])
  (.seq (.seq (.region false [⟨some 5, .load true 64 (.t 1), [], none⟩,
    ⟨some 6, .mov none (.k (.one (.iv (.int .i64 0)))), [], none⟩])
  (.block 0 (.loop false [5, 6] l33_0)))
  (.seq (.region false [⟨some 2, .mov none (.k (.one (.iv (.bool true)))), [], none⟩])
  (.ret)))
def v33 : VFn := ⟨1, 16, [.t 2], b33⟩

theorem c33 : chkFn Try.prog 33 v33 = true := by kernel_rfl

/- scholia/dots.good -/
def b81 : VCode := .seq (.region false [⟨some 1, .box (.t 0), [], none⟩,
    ⟨some 2, .mov none (.k (.one (.iv (.bool false)))), [], none⟩])
  (.seq (.region false [⟨some 3, .slA 1 64 (.t 1), [], none⟩,
    ⟨some 4, .call 114 [(false, .t 3), (false, .k (.one (.iv (.fn 115))))], [], none⟩,
    ⟨some 5, .un .not (.t 4), [], none⟩,
    ⟨some 2, .mov none (.t 5), [], none⟩])
  (.ret))
def v81 : VFn := ⟨1, 6, [.t 2], b81⟩

theorem c81 : chkFn Try.prog 81 v81 = true := by kernel_rfl

/- slices.ContainsFunc[[]int,int] -/
def b114 : VCode := .seq (.region false [⟨some 4, .mov none (.k (.one (.iv (.bool false)))), [], none⟩])
  (.seq (.region false [⟨some 5, .mov none (.t 0), [], none⟩,
    ⟨some 6, .mov none (.t 1), [], none⟩,
    ⟨some 7, .call 138 [(false, .t 5), (false, .t 6)], [], none⟩,
    ⟨some 8, .bin .geq (.t 7) (.k (.one (.iv (.int .i64 0)))), [], none⟩,
    ⟨some 4, .mov none (.t 8), [], none⟩])
  (.ret))
def v114 : VFn := ⟨2, 9, [.t 4], b114⟩

theorem c114 : chkFn Try.prog 114 v114 = true := by kernel_rfl

/- scholia/dots.good$1 -/
def b115 : VCode := .seq (.region false [⟨some 2, .mov none (.k (.one (.iv (.bool false)))), [], none⟩])
  (.seq (.region false [⟨some 3, .mov none (.t 0), [], none⟩,
    ⟨some 4, .bin .lss (.t 3) (.k (.one (.iv (.int .i64 0)))), [], none⟩,
    ⟨some 5, .mov none (.t 4), [], none⟩,
    ⟨some 6, .mov none (.t 0), [], some (5, false)⟩,
    ⟨some 7, .bin .gtr (.t 6) (.k (.one (.iv (.int .i64 1073741824)))), [], some (5, false)⟩,
    ⟨some 8, .pick (.t 5) (.k (.one (.iv (.bool true)))) (.t 7), [], none⟩,
    ⟨some 2, .mov none (.t 8), [], none⟩])
  (.ret))
def v115 : VFn := ⟨1, 9, [.t 2], b115⟩

theorem c115 : chkFn Try.prog 115 v115 = true := by kernel_rfl

/- slices.IndexFunc[[]int,int] -/
def l138_0 : VCode := .seq (.region false [⟨some 9, .bin .lss (.t 8) (.t 7), [], none⟩])
  (.seq (.cond (.t 9) (.skip) (.exit 0))
  (.seq (.block 1 (.seq (.region false [⟨some 10, .mov none (.t 8), [], none⟩,
    ⟨some 5, .mov none (.t 10), [], none⟩])
  (.seq (.region false [⟨some 11, .mov none (.t 1), [], none⟩,
    ⟨some 12, .mov none (.t 0), [], none⟩,
    ⟨some 13, .mov none (.t 5), [], none⟩,
    ⟨some 14, .ixS 1 (.t 12) (.t 13), [], none⟩,
    ⟨some 15, .load false 1 (.t 14), [], none⟩,
    ⟨some 16, .callv (.t 11) [(false, .t 15)], [], none⟩])
  (.cond (.t 16) (.seq (.region false [⟨some 17, .mov none (.t 5), [], none⟩,
    ⟨some 4, .mov none (.t 17), [], none⟩])
  (.ret)) (.skip)))))
  (.region false [⟨some 18, .bin .add (.t 8) (.k (.one (.iv (.int .i64 1)))), [], none⟩,
    ⟨some 8, .mov none (.t 18), [], none⟩])))
def b138 : VCode := .seq (.region false [⟨some 4, .mov none (.k (.one (.iv (.int .i64 0)))), [], none⟩])
  (.seq (.seq (.region false [⟨some 6, .mov none (.t 0), [], none⟩,
    ⟨some 7, .blt .len [.t 6], [], none⟩,
    ⟨some 8, .mov none (.k (.one (.iv (.int .i64 0)))), [], none⟩])
  (.block 0 (.loop false [0, 1, 7, 8] l138_0)))
  (.seq (.region false [⟨some 4, .mov none (.k (.one (.iv (.int .i64 (-1))))), [], none⟩])
  (.ret)))
def v138 : VFn := ⟨2, 19, [.t 4], b138⟩

theorem c138 : chkFn Try.prog 138 v138 = true := by kernel_rfl

/- scholia/dots.each -/
def l78_0 : VCode := .seq (.region false [⟨some 9, .bin .lss (.t 8) (.k (.one (.iv (.int .i64 64)))), [], none⟩])
  (.seq (.cond (.t 9) (.skip) (.exit 0))
  (.seq (.block 1 (.seq (.region false [⟨some 10, .mov none (.t 8), [], none⟩,
    ⟨some 7, .mov none (.t 10), [], none⟩])
  (.region true [⟨some 11, .mov none (.t 7), [], none⟩,
    ⟨some 12, .mov none (.t 2), [], none⟩,
    ⟨some 13, .mov none (.t 7), [], none⟩,
    ⟨some 14, .ixA 64 1 (.t 3) (.t 13), [2], none⟩,
    ⟨some 15, .load false 1 (.t 14), [3], none⟩,
    ⟨some 16, .mov none (.t 7), [], none⟩,
    ⟨some 17, .ixA 64 1 (.t 4) (.t 16), [5], none⟩,
    ⟨some 18, .load false 1 (.t 17), [6], none⟩,
    ⟨some 19, .callv (.t 12) [(false, .t 15), (false, .t 18)], [7, 4, 1], none⟩,
    ⟨some 20, .ixA 64 1 (.t 3) (.t 11), [8, 0], none⟩,
    ⟨none, .store 1 (.t 20) (.t 19), [9], none⟩])))
  (.region false [⟨some 21, .bin .add (.t 8) (.k (.one (.iv (.int .i64 1)))), [], none⟩,
    ⟨some 8, .mov none (.t 21), [], none⟩])))
def b78 : VCode := .seq (.region false [⟨some 3, .box (.t 0), [], none⟩,
    ⟨some 4, .box (.t 1), [], none⟩,
    ⟨some 6, .new [.iv (.arr 64 (List.replicate 64 (.int .i64 0)))], [], none⟩])
  (.seq (.seq (.region false [⟨some 8, .mov none (.k (.one (.iv (.int .i64 0)))), [], none⟩])
  (.block 0 (.loop false [2, 3, 4, 6, 8] l78_0)))
  (.seq (.region false [⟨some 22, .load true 64 (.t 3), [], none⟩,
    ⟨none, .store 64 (.t 6) (.t 22), [], none⟩])
  (.ret)))
def v78 : VFn := ⟨3, 23, [.c 6 true 64], b78⟩

theorem c78 : chkFn Try.prog 78 v78 = true := by kernel_rfl

/- scholia/dots.Join$1 -/
def b79 : VCode := .seq (.region false [⟨some 4, .mov none (.k (.one (.iv (.int .i64 0)))), [], none⟩])
  (.seq (.region false [⟨some 5, .mov none (.t 0), [], none⟩,
    ⟨some 6, .mov none (.t 1), [], none⟩,
    ⟨some 7, .blt .max [.t 5, .t 6], [], none⟩,
    ⟨some 4, .mov none (.t 7), [], none⟩])
  (.ret))
def v79 : VFn := ⟨2, 8, [.t 4], b79⟩

theorem c79 : chkFn Try.prog 79 v79 = true := by kernel_rfl

/- scholia/dots.Meet$1 -/
def b80 : VCode := .seq (.region false [⟨some 4, .mov none (.k (.one (.iv (.int .i64 0)))), [], none⟩])
  (.seq (.region false [⟨some 5, .mov none (.t 0), [], none⟩,
    ⟨some 6, .mov none (.t 1), [], none⟩,
    ⟨some 7, .blt .min [.t 5, .t 6], [], none⟩,
    ⟨some 4, .mov none (.t 7), [], none⟩])
  (.ret))
def v80 : VFn := ⟨2, 8, [.t 4], b80⟩

theorem c80 : chkFn Try.prog 80 v80 = true := by kernel_rfl

/- scholia/dots.Compare -/
def b17 : VCode := .seq (.region false [⟨some 2, .box (.t 0), [], none⟩,
    ⟨some 3, .box (.t 1), [], none⟩,
    ⟨some 4, .mov none (.k (.one (.iv (.int .i64 0)))), [], none⟩])
  (.seq (.region true [⟨some 5, .fad 0 (.t 2), [], none⟩,
    ⟨some 6, .load false 1 (.t 5), [0], none⟩,
    ⟨some 7, .fad 0 (.t 3), [], none⟩,
    ⟨some 8, .load false 1 (.t 7), [2], none⟩,
    ⟨some 9, .call 77 [(false, .t 6), (false, .t 8)], [3, 1], none⟩,
    ⟨some 10, .fad 1 (.t 2), [], none⟩,
    ⟨some 11, .load false 1 (.t 10), [5], none⟩,
    ⟨some 12, .fad 1 (.t 3), [], none⟩,
    ⟨some 13, .load false 1 (.t 12), [7], none⟩,
    ⟨some 14, .call 77 [(false, .t 11), (false, .t 13)], [8, 6, 4], none⟩,
    ⟨some 15, .mks false 1 [.t 9, .t 14], [9], none⟩,
    ⟨some 16, .call 76 [(false, .t 15)], [10], none⟩,
    ⟨some 4, .mov none (.t 16), [11], none⟩])
  (.ret))
def v17 : VFn := ⟨2, 17, [.t 4], b17⟩

theorem c17 : chkFn Try.prog 17 v17 = true := by kernel_rfl

/- scholia/dots.Valid -/
def b18 : VCode := .seq (.region false [⟨some 1, .box (.t 0), [], none⟩,
    ⟨some 2, .mov none (.k (.one (.iv (.bool false)))), [], none⟩])
  (.seq (.region false [⟨some 3, .fad 0 (.t 1), [], none⟩,
    ⟨some 4, .load false 1 (.t 3), [], none⟩,
    ⟨some 5, .bin .geq (.t 4) (.k (.one (.iv (.int .i64 0)))), [], none⟩,
    ⟨some 6, .mov none (.t 5), [], none⟩,
    ⟨some 7, .fad 0 (.t 1), [], some (6, true)⟩,
    ⟨some 8, .load false 1 (.t 7), [], some (6, true)⟩,
    ⟨some 9, .bin .lss (.t 8) (.k (.one (.iv (.int .i64 64)))), [], some (6, true)⟩,
    ⟨some 10, .pick (.t 6) (.t 9) (.k (.one (.iv (.bool false)))), [], none⟩,
    ⟨some 11, .mov none (.t 10), [], none⟩,
    ⟨some 12, .fad 1 (.t 1), [], some (11, true)⟩,
    ⟨some 13, .load false 1 (.t 12), [], some (11, true)⟩,
    ⟨some 14, .bin .geq (.t 13) (.k (.one (.iv (.int .i64 1)))), [], some (11, true)⟩,
    ⟨some 15, .pick (.t 11) (.t 14) (.k (.one (.iv (.bool false)))), [], none⟩,
    ⟨some 16, .mov none (.t 15), [], none⟩,
    ⟨some 17, .fad 1 (.t 1), [], some (16, true)⟩,
    ⟨some 18, .load false 1 (.t 17), [], some (16, true)⟩,
    ⟨some 19, .bin .leq (.t 18) (.k (.one (.iv (.int .i64 1073741824)))), [], some (16, true)⟩,
    ⟨some 20, .pick (.t 16) (.t 19) (.k (.one (.iv (.bool false)))), [], none⟩,
    ⟨some 2, .mov none (.t 20), [], none⟩])
  (.ret))
def v18 : VFn := ⟨1, 21, [.t 2], b18⟩

theorem c18 : chkFn Try.prog 18 v18 = true := by kernel_rfl

/- scholia/scholialaw08.awake -/
def b25 : VCode := .seq (.region false [⟨some 0, .mov none (.k (.one (.iv (.bool false)))), [], none⟩])
  (.seq (.region false [⟨some 2, .build [.iv (.int .i64 0), .iv (.int .i64 0), .iv (.int .i64 0), .iv (.int .i64 0), .iv (.int .i64 0), .iv (.int .i64 0), .iv (.int .i64 0), .iv (.int .i64 0), .iv (.int .i64 0), .iv (.int .i64 0), .iv (.int .i64 0), .iv (.int .i64 0), .iv (.int .i64 0), .iv (.int .i64 0), .iv (.int .i64 0), .iv (.int .i64 0), .iv (.int .i64 0), .iv (.int .i64 0), .iv (.int .i64 0), .iv (.int .i64 0), .iv (.int .i64 0), .iv (.int .i64 0), .iv (.int .i64 0), .iv (.int .i64 0), .iv (.int .i64 0), .iv (.int .i64 0), .iv (.int .i64 0), .iv (.int .i64 0), .iv (.int .i64 0), .iv (.int .i64 0), .iv (.int .i64 0), .iv (.int .i64 0), .iv (.int .i64 0), .iv (.int .i64 0), .iv (.int .i64 0), .iv (.int .i64 0), .iv (.int .i64 0), .iv (.int .i64 0), .iv (.int .i64 0), .iv (.int .i64 0), .iv (.int .i64 0), .iv (.int .i64 0), .iv (.int .i64 0), .iv (.int .i64 0), .iv (.int .i64 0), .iv (.int .i64 0), .iv (.int .i64 0), .iv (.int .i64 0), .iv (.int .i64 0), .iv (.int .i64 0), .iv (.int .i64 0), .iv (.int .i64 0), .iv (.int .i64 0), .iv (.int .i64 0), .iv (.int .i64 0), .iv (.int .i64 0), .iv (.int .i64 0), .iv (.int .i64 0), .iv (.int .i64 0), .iv (.int .i64 0), .iv (.int .i64 0), .iv (.int .i64 0), .iv (.int .i64 0), .iv (.int .i64 0)] [(0, 1, .k (.one (.iv (.int .i64 2))))], [], none⟩,
    ⟨some 3, .build [.iv (.int .i64 0), .iv (.int .i64 0)] [(0, 1, .k (.one (.iv (.int .i64 0)))), (1, 1, .k (.one (.iv (.int .i64 4))))], [], none⟩,
    ⟨some 4, .build [.iv (.int .i64 0), .iv (.int .i64 0)] [(0, 1, .k (.one (.iv (.int .i64 0)))), (1, 1, .k (.one (.iv (.int .i64 3))))], [], none⟩,
    ⟨some 5, .build [.iv (.int .i64 0), .iv (.int .i64 0)] [(0, 1, .k (.one (.iv (.int .i64 0)))), (1, 1, .k (.one (.iv (.int .i64 6))))], [], none⟩,
    ⟨some 6, .mks false 2 [.t 3, .t 4, .t 5], [], none⟩,
    ⟨some 7, .build [.iv (.int .i64 0), .iv (.int .i64 0), .iv (.int .i64 0), .iv (.int .i64 0), .iv (.int .i64 0), .iv (.int .i64 0), .iv (.int .i64 0), .iv (.int .i64 0), .iv (.int .i64 0), .iv (.int .i64 0), .iv (.int .i64 0), .iv (.int .i64 0), .iv (.int .i64 0), .iv (.int .i64 0), .iv (.int .i64 0), .iv (.int .i64 0), .iv (.int .i64 0), .iv (.int .i64 0), .iv (.int .i64 0), .iv (.int .i64 0), .iv (.int .i64 0), .iv (.int .i64 0), .iv (.int .i64 0), .iv (.int .i64 0), .iv (.int .i64 0), .iv (.int .i64 0), .iv (.int .i64 0), .iv (.int .i64 0), .iv (.int .i64 0), .iv (.int .i64 0), .iv (.int .i64 0), .iv (.int .i64 0), .iv (.int .i64 0), .iv (.int .i64 0), .iv (.int .i64 0), .iv (.int .i64 0), .iv (.int .i64 0), .iv (.int .i64 0), .iv (.int .i64 0), .iv (.int .i64 0), .iv (.int .i64 0), .iv (.int .i64 0), .iv (.int .i64 0), .iv (.int .i64 0), .iv (.int .i64 0), .iv (.int .i64 0), .iv (.int .i64 0), .iv (.int .i64 0), .iv (.int .i64 0), .iv (.int .i64 0), .iv (.int .i64 0), .iv (.int .i64 0), .iv (.int .i64 0), .iv (.int .i64 0), .iv (.int .i64 0), .iv (.int .i64 0), .iv (.int .i64 0), .iv (.int .i64 0), .iv (.int .i64 0), .iv (.int .i64 0), .iv (.int .i64 0), .iv (.int .i64 0), .iv (.int .i64 0), .iv (.int .i64 0), .iv (.sl true 0 [])] [(0, 64, .t 2), (64, 1, .t 6)], [], none⟩,
    ⟨some 8, .call 34 [(false, .t 7)], [], none⟩,
    ⟨some 1, .new [.iv (.arr 64 (List.replicate 64 (.int .i64 0))), .iv (.sl true 0 [])], [], none⟩,
    ⟨none, .store 65 (.t 1) (.t 8), [], none⟩])
  (.seq (.region false [⟨some 9, .fad 0 (.t 1), [], none⟩,
    ⟨some 10, .ixA 64 1 (.t 9) (.k (.one (.iv (.int .i64 0)))), [], none⟩,
    ⟨some 11, .load false 1 (.t 10), [], none⟩,
    ⟨some 12, .bin .eql (.t 11) (.k (.one (.iv (.int .i64 4)))), [], none⟩,
    ⟨some 13, .mov none (.t 12), [], none⟩,
    ⟨some 14, .fad 64 (.t 1), [], some (13, true)⟩,
    ⟨some 15, .load false 1 (.t 14), [], some (13, true)⟩,
    ⟨some 16, .blt .len [.t 15], [], some (13, true)⟩,
    ⟨some 17, .bin .eql (.t 16) (.k (.one (.iv (.int .i64 1)))), [], some (13, true)⟩,
    ⟨some 18, .pick (.t 13) (.t 17) (.k (.one (.iv (.bool false)))), [], none⟩,
    ⟨some 19, .mov none (.t 18), [], none⟩,
    ⟨some 20, .fad 64 (.t 1), [], some (19, true)⟩,
    ⟨some 21, .load false 1 (.t 20), [], some (19, true)⟩,
    ⟨some 22, .ixS 2 (.t 21) (.k (.one (.iv (.int .i64 0)))), [], some (19, true)⟩,
    ⟨some 23, .fad 1 (.t 22), [], some (19, true)⟩,
    ⟨some 24, .load false 1 (.t 23), [], some (19, true)⟩,
    ⟨some 25, .bin .eql (.t 24) (.k (.one (.iv (.int .i64 6)))), [], some (19, true)⟩,
    ⟨some 26, .pick (.t 19) (.t 25) (.k (.one (.iv (.bool false)))), [], none⟩,
    ⟨some 0, .mov none (.t 26), [], none⟩])
  (.ret)))
def v25 : VFn := ⟨0, 27, [.t 0], b25⟩

theorem c25 : chkFn Try.prog 25 v25 = true := by kernel_rfl

/- scholia/dots.Tidy -/
def l34_0 : VCode := .seq (.region false [⟨some 13, .bin .lss (.t 12) (.k (.one (.iv (.int .i64 64)))), [], none⟩])
  (.seq (.cond (.t 13) (.skip) (.exit 0))
  (.seq (.block 1 (.seq (.region false [⟨some 14, .mov none (.t 12), [], none⟩,
    ⟨some 15, .ixV 64 (.t 11) (.t 12), [], none⟩,
    ⟨some 4, .mov none (.t 14), [], none⟩,
    ⟨some 5, .mov none (.t 15), [], none⟩])
  (.region false [⟨some 16, .mov none (.t 4), [], none⟩,
    ⟨some 17, .mov none (.t 5), [], none⟩,
    ⟨some 18, .blt .max [.t 17, .k (.one (.iv (.int .i64 0)))], [], none⟩,
    ⟨some 19, .blt .min [.t 18, .k (.one (.iv (.int .i64 1073741824)))], [], none⟩,
    ⟨some 20, .fad 0 (.t 3), [], none⟩,
    ⟨some 21, .ixA 64 1 (.t 20) (.t 16), [], none⟩,
    ⟨none, .store 1 (.t 21) (.t 19), [], none⟩])))
  (.region false [⟨some 22, .bin .add (.t 12) (.k (.one (.iv (.int .i64 1)))), [], none⟩,
    ⟨some 12, .mov none (.t 22), [], none⟩])))
def l34_1 : VCode := .seq (.region false [⟨some 32, .bin .lss (.t 31) (.t 30), [], none⟩])
  (.seq (.cond (.t 32) (.skip) (.exit 2))
  (.seq (.block 3 (.seq (.region false [⟨some 33, .ixS 2 (.t 29) (.t 31), [], none⟩,
    ⟨some 34, .load true 2 (.t 33), [], none⟩,
    ⟨some 8, .new [.iv (.int .i64 0), .iv (.int .i64 0)], [], none⟩,
    ⟨none, .store 2 (.t 8) (.t 34), [], none⟩])
  (.seq (.region false [⟨some 35, .fad 0 (.t 8), [], none⟩,
    ⟨some 36, .load false 1 (.t 35), [], none⟩,
    ⟨some 37, .fad 0 (.t 3), [], none⟩,
    ⟨some 38, .ixA 64 1 (.t 37) (.t 36), [], none⟩,
    ⟨some 39, .load false 1 (.t 38), [], none⟩,
    ⟨some 9, .mov none (.t 39), [], none⟩])
  (.block 4 (.seq (.region false [⟨some 41, .fad 1 (.t 8), [], none⟩,
    ⟨some 42, .load false 1 (.t 41), [], none⟩,
    ⟨some 43, .mov none (.t 9), [], none⟩,
    ⟨some 44, .bin .add (.t 43) (.k (.one (.iv (.int .i64 1)))), [], none⟩,
    ⟨some 45, .bin .eql (.t 42) (.t 44), [], none⟩,
    ⟨some 40, .mov none (.t 45), [], none⟩])
  (.cond (.t 40) (.region false [⟨some 46, .fad 0 (.t 8), [], none⟩,
    ⟨some 47, .load false 1 (.t 46), [], none⟩,
    ⟨some 48, .fad 1 (.t 8), [], none⟩,
    ⟨some 49, .load false 1 (.t 48), [], none⟩,
    ⟨some 50, .fad 0 (.t 3), [], none⟩,
    ⟨some 51, .ixA 64 1 (.t 50) (.t 47), [], none⟩,
    ⟨none, .store 1 (.t 51) (.t 49), [], none⟩]) (.seq (.region true [⟨some 53, .fad 1 (.t 8), [], none⟩,
    ⟨some 54, .load false 1 (.t 53), [0], none⟩,
    ⟨some 55, .mov none (.t 9), [], none⟩,
    ⟨some 56, .bin .add (.t 55) (.k (.one (.iv (.int .i64 1)))), [2], none⟩,
    ⟨some 57, .bin .gtr (.t 54) (.t 56), [3, 1], none⟩,
    ⟨some 58, .mov none (.t 57), [4], none⟩,
    ⟨some 59, .fad 64 (.t 3), [5], some (58, true)⟩,
    ⟨some 60, .load false 1 (.t 59), [6], some (58, true)⟩,
    ⟨some 61, .blt .len [.t 60], [7], some (58, true)⟩,
    ⟨some 62, .bin .eql (.t 61) (.k (.one (.iv (.int .i64 0)))), [8], some (58, true)⟩,
    ⟨some 63, .mov none (.t 62), [9], some (58, true)⟩,
    ⟨some 64, .fad 64 (.t 3), [10], some (63, false)⟩,
    ⟨some 65, .load false 1 (.t 64), [11], some (63, false)⟩,
    ⟨some 66, .fad 64 (.t 3), [10], some (63, false)⟩,
    ⟨some 67, .load false 1 (.t 66), [13], some (63, false)⟩,
    ⟨some 68, .blt .len [.t 67], [14], some (63, false)⟩,
    ⟨some 69, .bin .sub (.t 68) (.k (.one (.iv (.int .i64 1)))), [15], some (63, false)⟩,
    ⟨some 70, .ixS 2 (.t 65) (.t 69), [16, 12], some (63, false)⟩,
    ⟨some 71, .load true 2 (.t 70), [17], some (63, false)⟩,
    ⟨some 72, .load true 2 (.t 8), [10], some (63, false)⟩,
    ⟨some 73, .eqa .neq ([.int] ++ [.int]) (.t 71) (.t 72), [19, 18], some (63, false)⟩,
    ⟨some 74, .pick (.t 63) (.k (.one (.iv (.bool true)))) (.t 73), [20], some (58, true)⟩,
    ⟨some 75, .pick (.t 58) (.t 74) (.k (.one (.iv (.bool false)))), [21], none⟩,
    ⟨some 52, .mov none (.t 75), [22], none⟩])
  (.cond (.t 52) (.region false [⟨some 76, .fad 64 (.t 3), [], none⟩,
    ⟨some 77, .load false 1 (.t 76), [], none⟩,
    ⟨some 78, .load true 2 (.t 8), [], none⟩,
    ⟨some 79, .mks false 2 [.t 78], [], none⟩,
    ⟨some 80, .blt (.append 2 16) [.t 77, .t 79], [], none⟩,
    ⟨some 81, .fad 64 (.t 3), [], none⟩,
    ⟨none, .store 1 (.t 81) (.t 80), [], none⟩]) (.skip)))))))))
  (.region false [⟨some 82, .bin .add (.t 31) (.k (.one (.iv (.int .i64 1)))), [], none⟩,
    ⟨some 31, .mov none (.t 82), [], none⟩])))
def b34 : VCode := .seq (.region false [⟨some 1, .box (.t 0), [], none⟩,
    ⟨some 2, .new [.iv (.arr 64 (List.replicate 64 (.int .i64 0))), .iv (.sl true 0 [])], [], none⟩])
  (.seq (.region false [⟨some 3, .new [.iv (.arr 64 (List.replicate 64 (.int .i64 0))), .fresh 2], [], none⟩])
  (.seq (.seq (.region false [⟨some 10, .fad 0 (.t 1), [], none⟩,
    ⟨some 11, .load true 64 (.t 10), [], none⟩,
    ⟨some 12, .mov none (.k (.one (.iv (.int .i64 0)))), [], none⟩])
  (.block 0 (.loop false [1, 2, 3, 11, 12] l34_0)))
  (.seq (.region false [⟨some 23, .fad 64 (.t 1), [], none⟩,
    ⟨some 24, .load false 1 (.t 23), [], none⟩,
    ⟨some 25, .call 83 [(false, .t 24)], [], none⟩,
    ⟨some 26, .call 82 [(true, .t 25), (false, .k (.one (.iv (.fn 84))))], [], none⟩,
    ⟨some 6, .mov none (.t 26), [], none⟩])
  (.seq (.region false [⟨some 27, .mov none (.t 6), [], none⟩,
    ⟨some 28, .call 85 [(true, .t 27), (false, .k (.one (.iv (.fn 17))))], [], none⟩])
  (.seq (.seq (.region false [⟨some 29, .mov none (.t 6), [], none⟩,
    ⟨some 30, .blt .len [.t 29], [], none⟩,
    ⟨some 31, .mov none (.k (.one (.iv (.int .i64 0)))), [], none⟩])
  (.block 2 (.loop false [2, 3, 29, 30, 31] l34_1)))
  (.seq (.region false [⟨some 83, .load true 65 (.t 3), [], none⟩,
    ⟨none, .store 65 (.t 2) (.t 83), [], none⟩])
  (.ret)))))))
def v34 : VFn := ⟨1, 84, [.c 2 true 65], b34⟩

theorem c34 : chkFn Try.prog 34 v34 = true := by kernel_rfl

/- cmp.Or[int] -/
def l76_0 : VCode := .seq (.region false [⟨some 9, .bin .lss (.t 8) (.t 7), [], none⟩])
  (.seq (.cond (.t 9) (.skip) (.exit 0))
  (.seq (.block 1 (.seq (.region false [⟨some 10, .ixS 1 (.t 6) (.t 8), [], none⟩,
    ⟨some 11, .load false 1 (.t 10), [], none⟩,
    ⟨some 5, .mov none (.t 11), [], none⟩])
  (.seq (.region false [⟨some 12, .mov none (.t 5), [], none⟩,
    ⟨some 13, .mov none (.t 3), [], none⟩,
    ⟨some 14, .bin .neq (.t 12) (.t 13), [], none⟩])
  (.cond (.t 14) (.seq (.region false [⟨some 15, .mov none (.t 5), [], none⟩,
    ⟨some 2, .mov none (.t 15), [], none⟩])
  (.ret)) (.skip)))))
  (.region false [⟨some 16, .bin .add (.t 8) (.k (.one (.iv (.int .i64 1)))), [], none⟩,
    ⟨some 8, .mov none (.t 16), [], none⟩])))
def b76 : VCode := .seq (.region false [⟨some 2, .mov none (.k (.one (.iv (.int .i64 0)))), [], none⟩])
  (.seq (.region false [⟨some 3, .mov none (.k (.one (.iv (.int .i64 0)))), [], none⟩])
  (.seq (.seq (.region false [⟨some 6, .mov none (.t 0), [], none⟩,
    ⟨some 7, .blt .len [.t 6], [], none⟩,
    ⟨some 8, .mov none (.k (.one (.iv (.int .i64 0)))), [], none⟩])
  (.block 0 (.loop false [3, 6, 7, 8] l76_0)))
  (.seq (.region false [⟨some 17, .mov none (.t 3), [], none⟩,
    ⟨some 2, .mov none (.t 17), [], none⟩])
  (.ret))))
def v76 : VFn := ⟨1, 18, [.t 2], b76⟩

theorem c76 : chkFn Try.prog 76 v76 = true := by kernel_rfl

/- cmp.Compare[int] -/
def b77 : VCode := .seq (.region false [⟨some 4, .mov none (.k (.one (.iv (.int .i64 0)))), [], none⟩])
  (.seq (.region false [⟨some 7, .mov none (.t 0), [], none⟩,
    ⟨some 8, .call 113 [(false, .t 7)], [], none⟩,
    ⟨some 5, .mov none (.t 8), [], none⟩])
  (.seq (.region false [⟨some 9, .mov none (.t 1), [], none⟩,
    ⟨some 10, .call 113 [(false, .t 9)], [], none⟩,
    ⟨some 6, .mov none (.t 10), [], none⟩])
  (.seq (.seq (.region false [⟨some 11, .mov none (.t 5), [], none⟩])
  (.cond (.t 11) (.seq (.seq (.region false [⟨some 12, .mov none (.t 6), [], none⟩])
  (.cond (.t 12) (.seq (.region false [⟨some 4, .mov none (.k (.one (.iv (.int .i64 0)))), [], none⟩])
  (.ret)) (.skip)))
  (.seq (.region false [⟨some 4, .mov none (.k (.one (.iv (.int .i64 (-1))))), [], none⟩])
  (.ret))) (.skip)))
  (.seq (.seq (.region false [⟨some 13, .mov none (.t 6), [], none⟩])
  (.cond (.t 13) (.seq (.region false [⟨some 4, .mov none (.k (.one (.iv (.int .i64 1)))), [], none⟩])
  (.ret)) (.skip)))
  (.seq (.seq (.region false [⟨some 14, .mov none (.t 0), [], none⟩,
    ⟨some 15, .mov none (.t 1), [], none⟩,
    ⟨some 16, .bin .lss (.t 14) (.t 15), [], none⟩])
  (.cond (.t 16) (.seq (.region false [⟨some 4, .mov none (.k (.one (.iv (.int .i64 (-1))))), [], none⟩])
  (.ret)) (.skip)))
  (.seq (.seq (.region false [⟨some 17, .mov none (.t 0), [], none⟩,
    ⟨some 18, .mov none (.t 1), [], none⟩,
    ⟨some 19, .bin .gtr (.t 17) (.t 18), [], none⟩])
  (.cond (.t 19) (.seq (.region false [⟨some 4, .mov none (.k (.one (.iv (.int .i64 1)))), [], none⟩])
  (.ret)) (.skip)))
  (.seq (.region false [⟨some 4, .mov none (.k (.one (.iv (.int .i64 0)))), [], none⟩])
  (.ret))))))))
def v77 : VFn := ⟨2, 20, [.t 4], b77⟩

theorem c77 : chkFn Try.prog 77 v77 = true := by kernel_rfl

/- cmp.isNaN[int] -/
def b113 : VCode := .seq (.region false [⟨some 2, .mov none (.k (.one (.iv (.bool false)))), [], none⟩])
  (.seq (.region false [⟨some 3, .mov none (.t 0), [], none⟩,
    ⟨some 4, .mov none (.t 0), [], none⟩,
    ⟨some 5, .bin .neq (.t 3) (.t 4), [], none⟩,
    ⟨some 2, .mov none (.t 5), [], none⟩])
  (.ret))
def v113 : VFn := ⟨1, 6, [.t 2], b113⟩

theorem c113 : chkFn Try.prog 113 v113 = true := by kernel_rfl

/- slices.DeleteFunc[[]scholia/api.Dot,scholia/api.Dot] -/
def l82_0 : VCode := .seq (.seq (.region false [⟨some 16, .mov none (.t 6), [], none⟩,
    ⟨some 17, .mov none (.t 0), [], none⟩,
    ⟨some 18, .blt .len [.t 17], [], none⟩,
    ⟨some 19, .bin .lss (.t 16) (.t 18), [], none⟩])
  (.cond (.t 19) (.skip) (.exit 0)))
  (.seq (.block 1 (.seq (.region false [⟨some 22, .mov none (.t 0), [], none⟩,
    ⟨some 23, .mov none (.t 6), [], none⟩,
    ⟨some 24, .ixS 2 (.t 22) (.t 23), [], none⟩,
    ⟨some 25, .load true 2 (.t 24), [], none⟩,
    ⟨some 7, .new [.iv (.int .i64 0), .iv (.int .i64 0)], [], none⟩,
    ⟨none, .store 2 (.t 7) (.t 25), [], none⟩])
  (.seq (.region false [⟨some 26, .mov none (.t 1), [], none⟩,
    ⟨some 27, .load true 2 (.t 7), [], none⟩,
    ⟨some 28, .callv (.t 26) [(false, .t 27)], [], none⟩,
    ⟨some 29, .un .not (.t 28), [], none⟩])
  (.cond (.t 29) (.seq (.region false [⟨some 30, .mov none (.t 0), [], none⟩,
    ⟨some 31, .mov none (.t 5), [], none⟩,
    ⟨some 32, .load true 2 (.t 7), [], none⟩,
    ⟨some 33, .ixS 2 (.t 30) (.t 31), [], none⟩,
    ⟨none, .store 2 (.t 33) (.t 32), [], none⟩])
  (.region false [⟨some 34, .mov none (.t 5), [], none⟩,
    ⟨some 35, .bin .add (.t 34) (.k (.one (.iv (.int .i64 1)))), [], none⟩,
    ⟨some 5, .mov none (.t 35), [], none⟩])) (.skip)))))
  (.region false [⟨some 20, .mov none (.t 6), [], none⟩,
    ⟨some 21, .bin .add (.t 20) (.k (.one (.iv (.int .i64 1)))), [], none⟩,
    ⟨some 6, .mov none (.t 21), [], none⟩]))
def b82 : VCode := .seq (.region false [⟨some 4, .mov none (.k (.one (.iv (.sl true 0 [])))), [], none⟩])
  (.seq (.region false [⟨some 8, .mov none (.t 0), [], none⟩,
    ⟨some 9, .mov none (.t 1), [], none⟩,
    ⟨some 10, .call 116 [(false, .t 8), (false, .t 9)], [], none⟩,
    ⟨some 5, .mov none (.t 10), [], none⟩])
  (.seq (.seq (.region false [⟨some 11, .mov none (.t 5), [], none⟩,
    ⟨some 12, .bin .eql (.t 11) (.k (.one (.iv (.int .i64 (-1))))), [], none⟩])
  (.cond (.t 12) (.seq (.region false [⟨some 13, .mov none (.t 0), [], none⟩,
    ⟨some 4, .mov none (.t 13), [], none⟩])
  (.ret)) (.skip)))
  (.seq (.seq (.region false [⟨some 14, .mov none (.t 5), [], none⟩,
    ⟨some 15, .bin .add (.t 14) (.k (.one (.iv (.int .i64 1)))), [], none⟩,
    ⟨some 6, .mov none (.t 15), [], none⟩])
  (.block 0 (.loop false [0, 1, 5, 6] l82_0)))
  (.seq (.region false [⟨some 36, .mov none (.t 0), [], none⟩,
    ⟨some 37, .mov none (.t 5), [], none⟩,
    ⟨some 38, .slS 2 (.t 36) (some (.t 37)) none none, [], none⟩,
    ⟨none, .bad, [], none⟩])
  (.seq (.region false [⟨some 39, .mov none (.t 0), [], none⟩,
    ⟨some 40, .mov none (.t 5), [], none⟩,
    ⟨some 41, .slS 2 (.t 39) none (some (.t 40)) none, [], none⟩,
    ⟨some 4, .mov none (.t 41), [], none⟩])
  (.ret))))))
def v82 : VFn := ⟨2, 42, [.t 4], b82⟩

theorem c82 : chkFn Try.prog 82 v82 = true := by kernel_rfl

/- scholia/dots.Tidy$1 -/
def b84 : VCode := .seq (.region false [⟨some 1, .box (.t 0), [], none⟩,
    ⟨some 2, .mov none (.k (.one (.iv (.bool false)))), [], none⟩])
  (.seq (.region false [⟨some 3, .load true 2 (.t 1), [], none⟩,
    ⟨some 4, .call 18 [(false, .t 3)], [], none⟩,
    ⟨some 5, .un .not (.t 4), [], none⟩,
    ⟨some 2, .mov none (.t 5), [], none⟩])
  (.ret))
def v84 : VFn := ⟨1, 6, [.t 2], b84⟩

theorem c84 : chkFn Try.prog 84 v84 = true := by kernel_rfl

/- slices.IndexFunc[[]scholia/api.Dot,scholia/api.Dot] -/
def l116_0 : VCode := .seq (.region false [⟨some 9, .bin .lss (.t 8) (.t 7), [], none⟩])
  (.seq (.cond (.t 9) (.skip) (.exit 0))
  (.seq (.block 1 (.seq (.region false [⟨some 10, .mov none (.t 8), [], none⟩,
    ⟨some 5, .mov none (.t 10), [], none⟩])
  (.seq (.region false [⟨some 11, .mov none (.t 1), [], none⟩,
    ⟨some 12, .mov none (.t 0), [], none⟩,
    ⟨some 13, .mov none (.t 5), [], none⟩,
    ⟨some 14, .ixS 2 (.t 12) (.t 13), [], none⟩,
    ⟨some 15, .load true 2 (.t 14), [], none⟩,
    ⟨some 16, .callv (.t 11) [(false, .t 15)], [], none⟩])
  (.cond (.t 16) (.seq (.region false [⟨some 17, .mov none (.t 5), [], none⟩,
    ⟨some 4, .mov none (.t 17), [], none⟩])
  (.ret)) (.skip)))))
  (.region false [⟨some 18, .bin .add (.t 8) (.k (.one (.iv (.int .i64 1)))), [], none⟩,
    ⟨some 8, .mov none (.t 18), [], none⟩])))
def b116 : VCode := .seq (.region false [⟨some 4, .mov none (.k (.one (.iv (.int .i64 0)))), [], none⟩])
  (.seq (.seq (.region false [⟨some 6, .mov none (.t 0), [], none⟩,
    ⟨some 7, .blt .len [.t 6], [], none⟩,
    ⟨some 8, .mov none (.k (.one (.iv (.int .i64 0)))), [], none⟩])
  (.block 0 (.loop false [0, 1, 7, 8] l116_0)))
  (.seq (.region false [⟨some 4, .mov none (.k (.one (.iv (.int .i64 (-1))))), [], none⟩])
  (.ret)))
def v116 : VFn := ⟨2, 19, [.t 4], b116⟩

theorem c116 : chkFn Try.prog 116 v116 = true := by kernel_rfl

/- slices.SortFunc[[]scholia/api.Dot,scholia/api.Dot] -/
def b85 : VCode := .seq (.region false [⟨some 5, .mov none (.t 0), [], none⟩,
    ⟨some 6, .blt .len [.t 5], [], none⟩,
    ⟨some 4, .mov none (.t 6), [], none⟩])
  (.region false [⟨some 7, .mov none (.t 0), [], none⟩,
    ⟨some 8, .mov none (.t 4), [], none⟩,
    ⟨some 9, .mov none (.t 4), [], none⟩,
    ⟨some 10, .conv .u64 (.t 9), [], none⟩,
    ⟨some 11, .call 118 [(false, .t 10)], [], none⟩,
    ⟨some 12, .mov none (.t 1), [], none⟩,
    ⟨some 13, .call 117 [(true, .t 7), (false, .k (.one (.iv (.int .i64 0)))), (false, .t 8), (false, .t 11), (false, .t 12)], [], none⟩])
def v85 : VFn := ⟨2, 14, [], b85⟩

theorem c85 : chkFn Try.prog 85 v85 = true := by kernel_rfl

/- slices.pdqsortCmpFunc[scholia/api.Dot] -/
def l117_0 : VCode := .block 1 (.seq (.region false [⟨some 21, .mov none (.t 2), [], none⟩,
    ⟨some 22, .mov none (.t 1), [], none⟩,
    ⟨some 23, .bin .sub (.t 21) (.t 22), [], none⟩,
    ⟨some 12, .mov none (.t 23), [], none⟩])
  (.seq (.seq (.region false [⟨some 24, .mov none (.t 12), [], none⟩,
    ⟨some 25, .bin .leq (.t 24) (.k (.one (.iv (.int .i64 12)))), [], none⟩])
  (.cond (.t 25) (.seq (.region false [⟨some 26, .mov none (.t 0), [], none⟩,
    ⟨some 27, .mov none (.t 1), [], none⟩,
    ⟨some 28, .mov none (.t 2), [], none⟩,
    ⟨some 29, .mov none (.t 4), [], none⟩,
    ⟨some 30, .call 139 [(true, .t 26), (false, .t 27), (false, .t 28), (false, .t 29)], [], none⟩])
  (.ret)) (.skip)))
  (.seq (.seq (.region false [⟨some 31, .mov none (.t 3), [], none⟩,
    ⟨some 32, .bin .eql (.t 31) (.k (.one (.iv (.int .i64 0)))), [], none⟩])
  (.cond (.t 32) (.seq (.region false [⟨some 33, .mov none (.t 0), [], none⟩,
    ⟨some 34, .mov none (.t 1), [], none⟩,
    ⟨some 35, .mov none (.t 2), [], none⟩,
    ⟨some 36, .mov none (.t 4), [], none⟩,
    ⟨some 37, .call 140 [(false, .t 33), (false, .t 34), (false, .t 35), (false, .t 36)], [], none⟩])
  (.ret)) (.skip)))
  (.seq (.seq (.region false [⟨some 38, .mov none (.t 10), [], none⟩,
    ⟨some 39, .un .not (.t 38), [], none⟩])
  (.cond (.t 39) (.seq (.region false [⟨some 40, .mov none (.t 0), [], none⟩,
    ⟨some 41, .mov none (.t 1), [], none⟩,
    ⟨some 42, .mov none (.t 2), [], none⟩,
    ⟨some 43, .mov none (.t 4), [], none⟩,
    ⟨some 44, .call 141 [(false, .t 40), (false, .t 41), (false, .t 42), (false, .t 43)], [], none⟩])
  (.region false [⟨some 45, .mov none (.t 3), [], none⟩,
    ⟨some 46, .bin .sub (.t 45) (.k (.one (.iv (.int .i64 1)))), [], none⟩,
    ⟨some 3, .mov none (.t 46), [], none⟩])) (.skip)))
  (.seq (.region false [⟨some 48, .mov none (.t 0), [], none⟩,
    ⟨some 49, .mov none (.t 1), [], none⟩,
    ⟨some 50, .mov none (.t 2), [], none⟩,
    ⟨some 51, .mov none (.t 4), [], none⟩,
    ⟨some 52, .call 142 [(false, .t 48), (false, .t 49), (false, .t 50), (false, .t 51)], [], none⟩,
    ⟨some 47, .mov none (.t 52), [], none⟩,
    ⟨some 53, .ext 0 (.t 47), [], none⟩,
    ⟨some 54, .ext 1 (.t 47), [], none⟩,
    ⟨some 13, .mov none (.t 53), [], none⟩,
    ⟨some 14, .mov none (.t 54), [], none⟩])
  (.seq (.seq (.region false [⟨some 55, .mov none (.t 14), [], none⟩,
    ⟨some 56, .bin .eql (.t 55) (.k (.one (.iv (.int .i64 2)))), [], none⟩])
  (.cond (.t 56) (.seq (.region false [⟨some 57, .mov none (.t 0), [], none⟩,
    ⟨some 58, .mov none (.t 1), [], none⟩,
    ⟨some 59, .mov none (.t 2), [], none⟩,
    ⟨some 60, .mov none (.t 4), [], none⟩,
    ⟨some 61, .call 143 [(false, .t 57), (false, .t 58), (false, .t 59), (false, .t 60)], [], none⟩])
  (.seq (.region false [⟨some 62, .mov none (.t 2), [], none⟩,
    ⟨some 63, .bin .sub (.t 62) (.k (.one (.iv (.int .i64 1)))), [], none⟩,
    ⟨some 64, .mov none (.t 13), [], none⟩,
    ⟨some 65, .mov none (.t 1), [], none⟩,
    ⟨some 66, .bin .sub (.t 64) (.t 65), [], none⟩,
    ⟨some 67, .bin .sub (.t 63) (.t 66), [], none⟩,
    ⟨some 13, .mov none (.t 67), [], none⟩])
  (.region false [⟨some 14, .mov none (.k (.one (.iv (.int .i64 1)))), [], none⟩]))) (.skip)))
  (.seq (.seq (.region false [⟨some 68, .mov none (.t 10), [], none⟩,
    ⟨some 69, .mov none (.t 68), [], none⟩,
    ⟨some 70, .mov none (.t 11), [], some (69, true)⟩,
    ⟨some 71, .pick (.t 69) (.t 70) (.k (.one (.iv (.bool false)))), [], none⟩,
    ⟨some 72, .mov none (.t 71), [], none⟩,
    ⟨some 73, .mov none (.t 14), [], some (72, true)⟩,
    ⟨some 74, .bin .eql (.t 73) (.k (.one (.iv (.int .i64 1)))), [], some (72, true)⟩,
    ⟨some 75, .pick (.t 72) (.t 74) (.k (.one (.iv (.bool false)))), [], none⟩])
  (.cond (.t 75) (.seq (.region false [⟨some 76, .mov none (.t 0), [], none⟩,
    ⟨some 77, .mov none (.t 1), [], none⟩,
    ⟨some 78, .mov none (.t 2), [], none⟩,
    ⟨some 79, .mov none (.t 4), [], none⟩,
    ⟨some 80, .call 144 [(false, .t 76), (false, .t 77), (false, .t 78), (false, .t 79)], [], none⟩])
  (.cond (.t 80) (.ret) (.skip))) (.skip)))
  (.seq (.seq (.region true [⟨some 81, .mov none (.t 1), [], none⟩,
    ⟨some 82, .bin .gtr (.t 81) (.k (.one (.iv (.int .i64 0)))), [0], none⟩,
    ⟨some 83, .mov none (.t 82), [1], none⟩,
    ⟨some 84, .mov none (.t 4), [2], some (83, true)⟩,
    ⟨some 85, .mov none (.t 0), [2], some (83, true)⟩,
    ⟨some 86, .mov none (.t 1), [2], some (83, true)⟩,
    ⟨some 87, .bin .sub (.t 86) (.k (.one (.iv (.int .i64 1)))), [5], some (83, true)⟩,
    ⟨some 88, .ixS 2 (.t 85) (.t 87), [6, 4], some (83, true)⟩,
    ⟨some 89, .load true 2 (.t 88), [7], some (83, true)⟩,
    ⟨some 90, .mov none (.t 0), [2], some (83, true)⟩,
    ⟨some 91, .mov none (.t 13), [2], some (83, true)⟩,
    ⟨some 92, .ixS 2 (.t 90) (.t 91), [10, 9], some (83, true)⟩,
    ⟨some 93, .load true 2 (.t 92), [11], some (83, true)⟩,
    ⟨some 94, .callv (.t 84) [(false, .t 89), (false, .t 93)], [12, 8, 3], some (83, true)⟩,
    ⟨some 95, .bin .lss (.t 94) (.k (.one (.iv (.int .i64 0)))), [13], some (83, true)⟩,
    ⟨some 96, .un .not (.t 95), [14], some (83, true)⟩,
    ⟨some 97, .pick (.t 83) (.t 96) (.k (.one (.iv (.bool false)))), [15], none⟩])
  (.cond (.t 97) (.seq (.region false [⟨some 98, .mov none (.t 0), [], none⟩,
    ⟨some 99, .mov none (.t 1), [], none⟩,
    ⟨some 100, .mov none (.t 2), [], none⟩,
    ⟨some 101, .mov none (.t 13), [], none⟩,
    ⟨some 102, .mov none (.t 4), [], none⟩,
    ⟨some 103, .call 145 [(false, .t 98), (false, .t 99), (false, .t 100), (false, .t 101), (false, .t 102)], [], none⟩,
    ⟨some 15, .mov none (.t 103), [], none⟩])
  (.seq (.region false [⟨some 104, .mov none (.t 15), [], none⟩,
    ⟨some 1, .mov none (.t 104), [], none⟩])
  (.exit 1))) (.skip)))
  (.seq (.region false [⟨some 106, .mov none (.t 0), [], none⟩,
    ⟨some 107, .mov none (.t 1), [], none⟩,
    ⟨some 108, .mov none (.t 2), [], none⟩,
    ⟨some 109, .mov none (.t 13), [], none⟩,
    ⟨some 110, .mov none (.t 4), [], none⟩,
    ⟨some 111, .call 146 [(false, .t 106), (false, .t 107), (false, .t 108), (false, .t 109), (false, .t 110)], [], none⟩,
    ⟨some 105, .mov none (.t 111), [], none⟩,
    ⟨some 112, .ext 0 (.t 105), [], none⟩,
    ⟨some 113, .ext 1 (.t 105), [], none⟩,
    ⟨some 16, .mov none (.t 112), [], none⟩,
    ⟨some 17, .mov none (.t 113), [], none⟩])
  (.seq (.region false [⟨some 114, .mov none (.t 17), [], none⟩,
    ⟨some 11, .mov none (.t 114), [], none⟩])
  (.seq (.region false [⟨some 115, .mov none (.t 16), [], none⟩,
    ⟨some 116, .mov none (.t 1), [], none⟩,
    ⟨some 117, .bin .sub (.t 115) (.t 116), [], none⟩,
    ⟨some 118, .mov none (.t 2), [], none⟩,
    ⟨some 119, .mov none (.t 16), [], none⟩,
    ⟨some 120, .bin .sub (.t 118) (.t 119), [], none⟩,
    ⟨some 18, .mov none (.t 117), [], none⟩,
    ⟨some 19, .mov none (.t 120), [], none⟩])
  (.seq (.region false [⟨some 121, .mov none (.t 12), [], none⟩,
    ⟨some 122, .bin .quo (.t 121) (.k (.one (.iv (.int .i64 8)))), [], none⟩,
    ⟨some 20, .mov none (.t 122), [], none⟩])
  (.seq (.region false [⟨some 123, .mov none (.t 18), [], none⟩,
    ⟨some 124, .mov none (.t 19), [], none⟩,
    ⟨some 125, .bin .lss (.t 123) (.t 124), [], none⟩])
  (.cond (.t 125) (.seq (.region false [⟨some 126, .mov none (.t 18), [], none⟩,
    ⟨some 127, .mov none (.t 20), [], none⟩,
    ⟨some 128, .bin .geq (.t 126) (.t 127), [], none⟩,
    ⟨some 10, .mov none (.t 128), [], none⟩])
  (.seq (.region false [⟨some 129, .mov none (.t 0), [], none⟩,
    ⟨some 130, .mov none (.t 1), [], none⟩,
    ⟨some 131, .mov none (.t 16), [], none⟩,
    ⟨some 132, .mov none (.t 3), [], none⟩,
    ⟨some 133, .mov none (.t 4), [], none⟩,
    ⟨some 134, .call 117 [(true, .t 129), (false, .t 130), (false, .t 131), (false, .t 132), (false, .t 133)], [], none⟩])
  (.region false [⟨some 135, .mov none (.t 16), [], none⟩,
    ⟨some 136, .bin .add (.t 135) (.k (.one (.iv (.int .i64 1)))), [], none⟩,
    ⟨some 1, .mov none (.t 136), [], none⟩]))) (.seq (.region false [⟨some 137, .mov none (.t 19), [], none⟩,
    ⟨some 138, .mov none (.t 20), [], none⟩,
    ⟨some 139, .bin .geq (.t 137) (.t 138), [], none⟩,
    ⟨some 10, .mov none (.t 139), [], none⟩])
  (.seq (.region false [⟨some 140, .mov none (.t 0), [], none⟩,
    ⟨some 141, .mov none (.t 16), [], none⟩,
    ⟨some 142, .bin .add (.t 141) (.k (.one (.iv (.int .i64 1)))), [], none⟩,
    ⟨some 143, .mov none (.t 2), [], none⟩,
    ⟨some 144, .mov none (.t 3), [], none⟩,
    ⟨some 145, .mov none (.t 4), [], none⟩,
    ⟨some 146, .call 117 [(true, .t 140), (false, .t 142), (false, .t 143), (false, .t 144), (false, .t 145)], [], none⟩])
  (.region false [⟨some 147, .mov none (.t 16), [], none⟩,
    ⟨some 2, .mov none (.t 147), [], none⟩])))))))))))))))))
def b117 : VCode := .seq (.region false [⟨some 10, .mov none (.k (.one (.iv (.bool true)))), [], none⟩])
  (.seq (.region false [⟨some 11, .mov none (.k (.one (.iv (.bool true)))), [], none⟩])
  (.block 0 (.loop false [0, 1, 2, 3, 4, 10, 11] l117_0)))
def v117 : VFn := ⟨5, 148, [], b117⟩

theorem c117 : chkFn Try.prog 117 v117 = true := by kernel_rfl

/- math/bits.Len -/
def b118 : VCode := .seq (.region false [⟨some 2, .mov none (.k (.one (.iv (.int .i64 0)))), [], none⟩])
  (.seq (.cond (.k (.one (.iv (.bool false)))) (.seq (.region false [⟨some 3, .mov none (.t 0), [], none⟩,
    ⟨some 4, .conv .u32 (.t 3), [], none⟩,
    ⟨some 5, .call 147 [(false, .t 4)], [], none⟩,
    ⟨some 2, .mov none (.t 5), [], none⟩])
  (.ret)) (.skip))
  (.seq (.region false [⟨some 6, .mov none (.t 0), [], none⟩,
    ⟨some 7, .call 148 [(false, .t 6)], [], none⟩,
    ⟨some 2, .mov none (.t 7), [], none⟩])
  (.ret)))
def v118 : VFn := ⟨1, 8, [.t 2], b118⟩

theorem c118 : chkFn Try.prog 118 v118 = true := by kernel_rfl

/- slices.insertionSortCmpFunc[scholia/api.Dot] -/
def l139_1 : VCode := .seq (.seq (.region true [⟨some 18, .mov none (.t 9), [], none⟩,
    ⟨some 19, .mov none (.t 1), [], none⟩,
    ⟨some 20, .bin .gtr (.t 18) (.t 19), [1, 0], none⟩,
    ⟨some 21, .mov none (.t 20), [2], none⟩,
    ⟨some 22, .mov none (.t 3), [3], some (21, true)⟩,
    ⟨some 23, .mov none (.t 0), [3], some (21, true)⟩,
    ⟨some 24, .mov none (.t 9), [3], some (21, true)⟩,
    ⟨some 25, .ixS 2 (.t 23) (.t 24), [6, 5], some (21, true)⟩,
    ⟨some 26, .load true 2 (.t 25), [7], some (21, true)⟩,
    ⟨some 27, .mov none (.t 0), [3], some (21, true)⟩,
    ⟨some 28, .mov none (.t 9), [3], some (21, true)⟩,
    ⟨some 29, .bin .sub (.t 28) (.k (.one (.iv (.int .i64 1)))), [10], some (21, true)⟩,
    ⟨some 30, .ixS 2 (.t 27) (.t 29), [11, 9], some (21, true)⟩,
    ⟨some 31, .load true 2 (.t 30), [12], some (21, true)⟩,
    ⟨some 32, .callv (.t 22) [(false, .t 26), (false, .t 31)], [13, 8, 4], some (21, true)⟩,
    ⟨some 33, .bin .lss (.t 32) (.k (.one (.iv (.int .i64 0)))), [14], some (21, true)⟩,
    ⟨some 34, .pick (.t 21) (.t 33) (.k (.one (.iv (.bool false)))), [15], none⟩])
  (.cond (.t 34) (.skip) (.exit 2)))
  (.seq (.block 3 (.region true [⟨some 37, .mov none (.t 0), [], none⟩,
    ⟨some 38, .mov none (.t 9), [], none⟩,
    ⟨some 39, .mov none (.t 0), [], none⟩,
    ⟨some 40, .mov none (.t 9), [], none⟩,
    ⟨some 41, .bin .sub (.t 40) (.k (.one (.iv (.int .i64 1)))), [3], none⟩,
    ⟨some 42, .mov none (.t 0), [], none⟩,
    ⟨some 43, .mov none (.t 9), [], none⟩,
    ⟨some 44, .bin .sub (.t 43) (.k (.one (.iv (.int .i64 1)))), [6], none⟩,
    ⟨some 45, .ixS 2 (.t 42) (.t 44), [7, 5], none⟩,
    ⟨some 46, .load true 2 (.t 45), [8], none⟩,
    ⟨some 47, .mov none (.t 0), [], none⟩,
    ⟨some 48, .mov none (.t 9), [], none⟩,
    ⟨some 49, .ixS 2 (.t 47) (.t 48), [11, 10], none⟩,
    ⟨some 50, .load true 2 (.t 49), [12], none⟩,
    ⟨some 51, .ixS 2 (.t 37) (.t 38), [13, 9, 1, 0], none⟩,
    ⟨none, .store 2 (.t 51) (.t 46), [14], none⟩,
    ⟨some 52, .ixS 2 (.t 39) (.t 41), [15, 4, 2], none⟩,
    ⟨none, .store 2 (.t 52) (.t 50), [16], none⟩]))
  (.region false [⟨some 35, .mov none (.t 9), [], none⟩,
    ⟨some 36, .bin .sub (.t 35) (.k (.one (.iv (.int .i64 1)))), [], none⟩,
    ⟨some 9, .mov none (.t 36), [], none⟩]))
def l139_0 : VCode := .seq (.seq (.region false [⟨some 12, .mov none (.t 8), [], none⟩,
    ⟨some 13, .mov none (.t 2), [], none⟩,
    ⟨some 14, .bin .lss (.t 12) (.t 13), [], none⟩])
  (.cond (.t 14) (.skip) (.exit 0)))
  (.seq (.block 1 (.seq (.region false [⟨some 17, .mov none (.t 8), [], none⟩,
    ⟨some 9, .mov none (.t 17), [], none⟩])
  (.block 2 (.loop false [0, 1, 2, 3, 8, 9] l139_1))))
  (.region false [⟨some 15, .mov none (.t 8), [], none⟩,
    ⟨some 16, .bin .add (.t 15) (.k (.one (.iv (.int .i64 1)))), [], none⟩,
    ⟨some 8, .mov none (.t 16), [], none⟩]))
def b139 : VCode := .seq (.region false [⟨some 10, .mov none (.t 1), [], none⟩,
    ⟨some 11, .bin .add (.t 10) (.k (.one (.iv (.int .i64 1)))), [], none⟩,
    ⟨some 8, .mov none (.t 11), [], none⟩])
  (.block 0 (.loop false [0, 1, 2, 3, 8] l139_0))
def v139 : VFn := ⟨4, 53, [], b139⟩

theorem c139 : chkFn Try.prog 139 v139 = true := by kernel_rfl

/- math/bits.Len64 -/
def b148 : VCode := .seq (.region false [⟨some 2, .mov none (.k (.one (.iv (.int .i64 0)))), [], none⟩])
  (.seq (.seq (.region false [⟨some 3, .mov none (.t 0), [], none⟩,
    ⟨some 4, .bin .geq (.t 3) (.k (.one (.iv (.int .u64 4294967296)))), [], none⟩])
  (.cond (.t 4) (.seq (.region false [⟨some 5, .mov none (.t 0), [], none⟩,
    ⟨some 6, .bin .shr (.t 5) (.k (.one (.iv (.int .u64 32)))), [], none⟩,
    ⟨some 0, .mov none (.t 6), [], none⟩])
  (.region false [⟨some 2, .mov none (.k (.one (.iv (.int .i64 32)))), [], none⟩])) (.skip)))
  (.seq (.seq (.region false [⟨some 7, .mov none (.t 0), [], none⟩,
    ⟨some 8, .bin .geq (.t 7) (.k (.one (.iv (.int .u64 65536)))), [], none⟩])
  (.cond (.t 8) (.seq (.region false [⟨some 9, .mov none (.t 0), [], none⟩,
    ⟨some 10, .bin .shr (.t 9) (.k (.one (.iv (.int .u64 16)))), [], none⟩,
    ⟨some 0, .mov none (.t 10), [], none⟩])
  (.region false [⟨some 11, .mov none (.t 2), [], none⟩,
    ⟨some 12, .bin .add (.t 11) (.k (.one (.iv (.int .i64 16)))), [], none⟩,
    ⟨some 2, .mov none (.t 12), [], none⟩])) (.skip)))
  (.seq (.seq (.region false [⟨some 13, .mov none (.t 0), [], none⟩,
    ⟨some 14, .bin .geq (.t 13) (.k (.one (.iv (.int .u64 256)))), [], none⟩])
  (.cond (.t 14) (.seq (.region false [⟨some 15, .mov none (.t 0), [], none⟩,
    ⟨some 16, .bin .shr (.t 15) (.k (.one (.iv (.int .u64 8)))), [], none⟩,
    ⟨some 0, .mov none (.t 16), [], none⟩])
  (.region false [⟨some 17, .mov none (.t 2), [], none⟩,
    ⟨some 18, .bin .add (.t 17) (.k (.one (.iv (.int .i64 8)))), [], none⟩,
    ⟨some 2, .mov none (.t 18), [], none⟩])) (.skip)))
  (.seq (.region false [⟨some 19, .mov none (.t 2), [], none⟩,
    ⟨some 20, .mov none (.t 0), [], none⟩,
    ⟨some 21, .conv .u8 (.t 20), [], none⟩,
    ⟨some 22, .ixT (.k (.one (.iv (.str ⟨#[0, 1, 2, 2, 3, 3, 3, 3, 4, 4, 4, 4, 4, 4, 4, 4, 5, 5, 5, 5, 5, 5, 5, 5, 5, 5, 5, 5, 5, 5, 5, 5, 6, 6, 6, 6, 6, 6, 6, 6, 6, 6, 6, 6, 6, 6, 6, 6, 6, 6, 6, 6, 6, 6, 6, 6, 6, 6, 6, 6, 6, 6, 6, 6, 7, 7, 7, 7, 7, 7, 7, 7, 7, 7, 7, 7, 7, 7, 7, 7, 7, 7, 7, 7, 7, 7, 7, 7, 7, 7, 7, 7, 7, 7, 7, 7, 7, 7, 7, 7, 7, 7, 7, 7, 7, 7, 7, 7, 7, 7, 7, 7, 7, 7, 7, 7, 7, 7, 7, 7, 7, 7, 7, 7, 7, 7, 7, 7, 8, 8, 8, 8, 8, 8, 8, 8, 8, 8, 8, 8, 8, 8, 8, 8, 8, 8, 8, 8, 8, 8, 8, 8, 8, 8, 8, 8, 8, 8, 8, 8, 8, 8, 8, 8, 8, 8, 8, 8, 8, 8, 8, 8, 8, 8, 8, 8, 8, 8, 8, 8, 8, 8, 8, 8, 8, 8, 8, 8, 8, 8, 8, 8, 8, 8, 8, 8, 8, 8, 8, 8, 8, 8, 8, 8, 8, 8, 8, 8, 8, 8, 8, 8, 8, 8, 8, 8, 8, 8, 8, 8, 8, 8, 8, 8, 8, 8, 8, 8, 8, 8, 8, 8, 8, 8, 8, 8, 8, 8, 8, 8, 8, 8, 8, 8, 8, 8, 8, 8, 8, 8, 8, 8, 8, 8, 8, 8]⟩)))) (.t 21), [], none⟩,
    ⟨some 23, .conv .i64 (.t 22), [], none⟩,
    ⟨some 24, .bin .add (.t 19) (.t 23), [], none⟩,
    ⟨some 2, .mov none (.t 24), [], none⟩])
  (.ret)))))
def v148 : VFn := ⟨1, 25, [.t 2], b148⟩

theorem c148 : chkFn Try.prog 148 v148 = true := by kernel_rfl

def tab : List (Nat × VFn) := [(5, v5), (26, v26), (27, v27), (28, v28), (29, v29), (30, v30), (31, v31), (32, v32), (33, v33), (81, v81), (114, v114), (115, v115), (138, v138), (78, v78), (79, v79), (80, v80), (17, v17), (18, v18), (25, v25), (34, v34), (76, v76), (77, v77), (113, v113), (82, v82), (84, v84), (116, v116), (85, v85), (117, v117), (118, v118), (139, v139), (148, v148)]

theorem tab_ok : TabOK Try.prog (lookT tab) := tabOK_cons c5 (tabOK_cons c26 (tabOK_cons c27 (tabOK_cons c28 (tabOK_cons c29 (tabOK_cons c30 (tabOK_cons c31 (tabOK_cons c32 (tabOK_cons c33 (tabOK_cons c81 (tabOK_cons c114 (tabOK_cons c115 (tabOK_cons c138 (tabOK_cons c78 (tabOK_cons c79 (tabOK_cons c80 (tabOK_cons c17 (tabOK_cons c18 (tabOK_cons c25 (tabOK_cons c34 (tabOK_cons c76 (tabOK_cons c77 (tabOK_cons c113 (tabOK_cons c82 (tabOK_cons c84 (tabOK_cons c116 (tabOK_cons c85 (tabOK_cons c117 (tabOK_cons c118 (tabOK_cons c139 (tabOK_cons c148 tabOK_nil))))))))))))))))))))))))))))))

def clones : List (Nat × Nat × Nat) := [(83, 2, 16)]

theorem clones_ok : chkClones Try.prog clones = true := by kernel_rfl

theorem mixed : Try.prog.follows .mixedOrders = true := by kernel_rfl

theorem pr_ok : PrOK Try.prog (fun _ => clonePr clones) := fun _ _ _ => clonePr_ok mixed clones_ok

theorem pr_mono : PrMono (fun _ => clonePr clones) := const_mono

abbrev Pl (f : Nat) (vs : List FV) (v : FV) (bs : List Blk) : Prop := Plays (lookT tab) (fun _ => clonePr clones) f vs [] (v, bs)

end Go.Proofs.Ytomchclmnmhjaaa
