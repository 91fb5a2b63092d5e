/- The code of the functions that a statement reaches, as V-code, checked against the program. Printed by a program. -/
import Derived.Test.YtinobfilomhhhaaV3
import Derived.Test.YtinobfilomhhhaaChecked
import Derived.KernelRfl
set_option maxRecDepth 100000
namespace Go.Proofs.Ytinobfilomhhhaa
open Go GoV

/- scholia/scholialaw32.SuggestWay -/
def b3 : VCode := .seq (.region false [⟨some 4, .mov none (.k (.one (.iv (.bool false)))), [], none⟩])
  (.seq (.region true [⟨some 10, .mov none (.t 0), [], none⟩,
    ⟨some 11, .mov none (.t 0), [], none⟩,
    ⟨some 12, .blt .lenS [.t 11], [1], none⟩,
    ⟨some 13, .blt .min [.t 12, .k (.one (.iv (.int .i64 60)))], [2], none⟩,
    ⟨some 14, .slT (.t 10) none (some (.t 13)), [3, 0], none⟩,
    ⟨some 15, .call 7 [(false, .t 14)], [4], none⟩,
    ⟨some 16, .mov none (.t 1), [], none⟩,
    ⟨some 17, .mov none (.t 1), [], none⟩,
    ⟨some 18, .blt .lenS [.t 17], [7], none⟩,
    ⟨some 19, .blt .min [.t 18, .k (.one (.iv (.int .i64 60)))], [8], none⟩,
    ⟨some 20, .slT (.t 16) none (some (.t 19)), [9, 6], none⟩,
    ⟨some 21, .call 7 [(false, .t 20)], [10, 5], none⟩,
    ⟨some 5, .mov none (.t 15), [11], none⟩,
    ⟨some 6, .mov none (.t 21), [12], none⟩])
  (.seq (.region true [⟨some 22, .mov none (.t 0), [], none⟩,
    ⟨some 23, .mov none (.t 0), [], none⟩,
    ⟨some 24, .blt .lenS [.t 23], [1], none⟩,
    ⟨some 25, .blt .min [.t 24, .k (.one (.iv (.int .i64 60)))], [2], none⟩,
    ⟨some 26, .slT (.t 22) none (some (.t 25)), [3, 0], none⟩,
    ⟨some 27, .mov none (.t 1), [], none⟩,
    ⟨some 28, .mov none (.t 1), [], none⟩,
    ⟨some 29, .blt .lenS [.t 28], [6], none⟩,
    ⟨some 30, .blt .min [.t 29, .k (.one (.iv (.int .i64 60)))], [7], none⟩,
    ⟨some 31, .slT (.t 27) none (some (.t 30)), [8, 5], none⟩,
    ⟨some 0, .mov none (.t 26), [4], none⟩,
    ⟨some 1, .mov none (.t 31), [10, 9], none⟩])
  (.seq (.region false [⟨some 32, .mov none (.t 0), [], none⟩,
    ⟨some 33, .mov none (.t 1), [], none⟩,
    ⟨some 34, .call 8 [(false, .t 32), (false, .t 33)], [], none⟩,
    ⟨some 7, .mov none (.t 34), [], none⟩])
  (.seq (.region false [⟨some 35, .mov none (.t 5), [], none⟩,
    ⟨some 36, .blt .len [.t 35], [], none⟩,
    ⟨some 37, .mov none (.t 6), [], none⟩,
    ⟨some 38, .blt .len [.t 37], [], none⟩,
    ⟨some 39, .blt .max [.t 36, .t 38], [], none⟩,
    ⟨some 40, .mov none (.t 5), [], none⟩,
    ⟨some 41, .blt .len [.t 40], [], none⟩,
    ⟨some 42, .mov none (.t 6), [], none⟩,
    ⟨some 43, .blt .len [.t 42], [], none⟩,
    ⟨some 44, .blt .min [.t 41, .t 43], [], none⟩,
    ⟨some 8, .mov none (.t 39), [], none⟩,
    ⟨some 9, .mov none (.t 44), [], none⟩])
  (.seq (.region false [⟨some 45, .mov none (.t 7), [], none⟩,
    ⟨some 46, .bin .eql (.t 45) (.k (.one (.iv (.int .i64 0)))), [], none⟩,
    ⟨some 47, .mov none (.t 5), [], none⟩,
    ⟨some 48, .mov none (.t 6), [], none⟩,
    ⟨some 49, .call 9 [(false, .t 47), (false, .t 48)], [], none⟩,
    ⟨some 50, .eqs .eql .bool (.t 46) (.t 49), [], none⟩,
    ⟨some 51, .mov none (.t 50), [], none⟩,
    ⟨some 52, .mov none (.t 7), [], some (51, true)⟩,
    ⟨some 53, .mov none (.t 1), [], some (51, true)⟩,
    ⟨some 54, .mov none (.t 0), [], some (51, true)⟩,
    ⟨some 55, .call 8 [(false, .t 53), (false, .t 54)], [], some (51, true)⟩,
    ⟨some 56, .bin .eql (.t 52) (.t 55), [], some (51, true)⟩,
    ⟨some 57, .pick (.t 51) (.t 56) (.k (.one (.iv (.bool false)))), [], none⟩,
    ⟨some 58, .mov none (.t 57), [], none⟩,
    ⟨some 59, .mov none (.t 7), [], some (58, true)⟩,
    ⟨some 60, .mov none (.t 8), [], some (58, true)⟩,
    ⟨some 61, .mov none (.t 9), [], some (58, true)⟩,
    ⟨some 62, .bin .sub (.t 60) (.t 61), [], some (58, true)⟩,
    ⟨some 63, .bin .geq (.t 59) (.t 62), [], some (58, true)⟩,
    ⟨some 64, .pick (.t 58) (.t 63) (.k (.one (.iv (.bool false)))), [], none⟩,
    ⟨some 65, .mov none (.t 64), [], none⟩,
    ⟨some 66, .mov none (.t 7), [], some (65, true)⟩,
    ⟨some 67, .mov none (.t 8), [], some (65, true)⟩,
    ⟨some 68, .bin .leq (.t 66) (.t 67), [], some (65, true)⟩,
    ⟨some 69, .pick (.t 65) (.t 68) (.k (.one (.iv (.bool false)))), [], none⟩,
    ⟨some 70, .mov none (.t 69), [], none⟩,
    ⟨some 71, .call 10 [], [], some (70, true)⟩,
    ⟨some 72, .pick (.t 70) (.t 71) (.k (.one (.iv (.bool false)))), [], none⟩,
    ⟨some 4, .mov none (.t 72), [], none⟩])
  (.ret))))))
def v3 : VFn := ⟨2, 73, [.t 4], b3⟩

theorem c3 : chkFn Try.prog 3 v3 = true := by kernel_rfl

/- scholia/scholiaref32.Signs -/
def l7_0 : VCode := .seq (.region false [⟨some 13, .bin .lss (.t 12) (.t 11), [], none⟩])
  (.seq (.cond (.t 13) (.skip) (.exit 0))
  (.seq (.block 1 (.seq (.region false [⟨some 14, .ixS 1 (.t 10) (.t 12), [], none⟩,
    ⟨some 15, .load false 1 (.t 14), [], none⟩,
    ⟨some 6, .mov none (.t 15), [], none⟩])
  (.seq (.region false [⟨some 17, .mov none (.t 0), [], none⟩,
    ⟨some 18, .mov none (.t 4), [], none⟩,
    ⟨some 19, .call 24 [(false, .t 17), (false, .t 18)], [], none⟩,
    ⟨some 16, .mov none (.t 19), [], none⟩,
    ⟨some 20, .ext 0 (.t 16), [], none⟩,
    ⟨some 21, .ext 1 (.t 16), [], none⟩,
    ⟨some 7, .mov none (.t 20), [], none⟩,
    ⟨some 8, .mov none (.t 21), [], none⟩])
  (.seq (.seq (.region false [⟨some 22, .mov none (.t 7), [], none⟩,
    ⟨some 23, .bin .lss (.t 22) (.k (.one (.iv (.int .i64 0)))), [], none⟩])
  (.cond (.t 23) (.region false [⟨some 24, .mov none (.t 0), [], none⟩,
    ⟨some 25, .mov none (.t 4), [], none⟩,
    ⟨some 26, .ixT (.t 24) (.t 25), [], none⟩,
    ⟨some 27, .conv .i64 (.t 26), [], none⟩,
    ⟨some 28, .bin .sub (.k (.one (.iv (.int .i64 (-1))))) (.t 27), [], none⟩,
    ⟨some 7, .mov none (.t 28), [], none⟩]) (.skip)))
  (.seq (.region false [⟨some 29, .mov none (.t 3), [], none⟩,
    ⟨some 30, .mov none (.t 7), [], none⟩,
    ⟨some 31, .mks false 1 [.t 30], [], none⟩,
    ⟨some 32, .blt (.append 1 8) [.t 29, .t 31], [], none⟩,
    ⟨some 3, .mov none (.t 32), [], none⟩])
  (.region false [⟨some 33, .mov none (.t 6), [], none⟩,
    ⟨some 4, .mov none (.t 33), [], none⟩]))))))
  (.region false [⟨some 34, .bin .add (.t 12) (.k (.one (.iv (.int .i64 1)))), [], none⟩,
    ⟨some 12, .mov none (.t 34), [], none⟩])))
def b7 : VCode := .seq (.region false [⟨some 2, .mov none (.k (.one (.iv (.sl true 0 [])))), [], none⟩])
  (.seq (.region false [⟨some 3, .mov (some 1) (.k (.one (.iv (.sl true 0 [])))), [], none⟩])
  (.seq (.region false [⟨some 4, .mov none (.k (.one (.iv (.int .i64 0)))), [], none⟩])
  (.seq (.seq (.region false [⟨some 9, .mov none (.t 0), [], none⟩,
    ⟨some 10, .call 23 [(false, .t 9)], [], none⟩,
    ⟨some 11, .blt .len [.t 10], [], none⟩,
    ⟨some 12, .mov none (.k (.one (.iv (.int .i64 0)))), [], none⟩])
  (.block 0 (.loop false [0, 3, 4, 10, 11, 12] l7_0)))
  (.seq (.region false [⟨some 35, .mov none (.t 3), [], none⟩,
    ⟨some 2, .mov none (.t 35), [], none⟩])
  (.ret)))))
def v7 : VFn := ⟨1, 36, [.t 2], b7⟩

theorem c7 : chkFn Try.prog 7 v7 = true := by kernel_rfl

/- scholia/suggest.Distance -/
def l8_0 : VCode := .seq (.region false [⟨some 29, .bin .lss (.t 28) (.t 27), [], none⟩])
  (.seq (.cond (.t 29) (.skip) (.exit 0))
  (.seq (.block 1 (.seq (.region false [⟨some 30, .mov none (.t 28), [], none⟩,
    ⟨some 9, .mov none (.t 30), [], none⟩])
  (.region false [⟨some 31, .mov none (.t 7), [], none⟩,
    ⟨some 32, .mov none (.t 9), [], none⟩,
    ⟨some 33, .mks false 1 [.t 32], [], none⟩,
    ⟨some 34, .blt (.append 1 8) [.t 31, .t 33], [], none⟩,
    ⟨some 7, .mov none (.t 34), [], none⟩])))
  (.region false [⟨some 35, .bin .add (.t 28) (.k (.one (.iv (.int .i64 1)))), [], none⟩,
    ⟨some 28, .mov none (.t 35), [], none⟩])))
def l8_1 : VCode := .seq (.seq (.region false [⟨some 36, .mov none (.t 10), [], none⟩,
    ⟨some 37, .mov none (.t 5), [], none⟩,
    ⟨some 38, .blt .len [.t 37], [], none⟩,
    ⟨some 39, .bin .leq (.t 36) (.t 38), [], none⟩])
  (.cond (.t 39) (.skip) (.exit 2)))
  (.seq (.block 3 (.region false [⟨some 42, .mov none (.t 5), [], none⟩,
    ⟨some 43, .mov none (.t 6), [], none⟩,
    ⟨some 44, .mov none (.t 10), [], none⟩,
    ⟨some 45, .mov none (.t 7), [], none⟩,
    ⟨some 46, .mov none (.t 8), [], none⟩,
    ⟨some 47, .call 26 [(false, .t 42), (false, .t 43), (false, .t 44), (false, .t 45), (false, .t 46)], [], none⟩,
    ⟨some 48, .mov none (.t 7), [], none⟩,
    ⟨some 7, .mov none (.t 47), [], none⟩,
    ⟨some 8, .mov none (.t 48), [], none⟩]))
  (.region false [⟨some 40, .mov none (.t 10), [], none⟩,
    ⟨some 41, .bin .add (.t 40) (.k (.one (.iv (.int .i64 1)))), [], none⟩,
    ⟨some 10, .mov none (.t 41), [], none⟩]))
def b8 : VCode := .seq (.region false [⟨some 4, .mov none (.k (.one (.iv (.int .i64 0)))), [], none⟩])
  (.seq (.region false [⟨some 11, .mov none (.t 0), [], none⟩,
    ⟨some 12, .call 25 [(false, .t 11)], [], none⟩,
    ⟨some 13, .mov none (.t 1), [], none⟩,
    ⟨some 14, .call 25 [(false, .t 13)], [], none⟩,
    ⟨some 5, .mov none (.t 12), [], none⟩,
    ⟨some 6, .mov none (.t 14), [], none⟩])
  (.seq (.region true [⟨some 15, .mov none (.t 5), [], none⟩,
    ⟨some 16, .mov none (.t 5), [], none⟩,
    ⟨some 17, .blt .len [.t 16], [1], none⟩,
    ⟨some 18, .blt .min [.t 17, .k (.one (.iv (.int .i64 64)))], [2], none⟩,
    ⟨some 19, .slS 1 (.t 15) none (some (.t 18)) none, [3, 0], none⟩,
    ⟨some 20, .mov none (.t 6), [], none⟩,
    ⟨some 21, .mov none (.t 6), [], none⟩,
    ⟨some 22, .blt .len [.t 21], [6], none⟩,
    ⟨some 23, .blt .min [.t 22, .k (.one (.iv (.int .i64 64)))], [7], none⟩,
    ⟨some 24, .slS 1 (.t 20) none (some (.t 23)) none, [8, 5], none⟩,
    ⟨some 5, .mov none (.t 19), [4], none⟩,
    ⟨some 6, .mov none (.t 24), [10, 9], none⟩])
  (.seq (.region false [⟨some 7, .mov (some 1) (.k (.one (.iv (.sl true 0 [])))), [], none⟩,
    ⟨some 8, .mov (some 1) (.k (.one (.iv (.sl true 0 [])))), [], none⟩])
  (.seq (.seq (.region false [⟨some 25, .mov none (.t 6), [], none⟩,
    ⟨some 26, .blt .len [.t 25], [], none⟩,
    ⟨some 27, .bin .add (.t 26) (.k (.one (.iv (.int .i64 1)))), [], none⟩,
    ⟨some 28, .mov none (.k (.one (.iv (.int .i64 0)))), [], none⟩])
  (.block 0 (.loop false [5, 6, 7, 8, 27, 28] l8_0)))
  (.seq (.seq (.region false [⟨some 10, .mov none (.k (.one (.iv (.int .i64 1)))), [], none⟩])
  (.block 2 (.loop false [5, 6, 7, 8, 10] l8_1)))
  (.seq (.region false [⟨some 49, .mov none (.t 7), [], none⟩,
    ⟨some 50, .mov none (.t 6), [], none⟩,
    ⟨some 51, .blt .len [.t 50], [], none⟩,
    ⟨some 52, .ixS 1 (.t 49) (.t 51), [], none⟩,
    ⟨some 53, .load false 1 (.t 52), [], none⟩,
    ⟨some 4, .mov none (.t 53), [], none⟩])
  (.ret)))))))
def v8 : VFn := ⟨2, 54, [.t 4], b8⟩

theorem c8 : chkFn Try.prog 8 v8 = true := by kernel_rfl

/- slices.Equal[[]int,int] -/
def l9_0 : VCode := .seq (.region false [⟨some 14, .bin .lss (.t 13) (.t 12), [], none⟩])
  (.seq (.cond (.t 14) (.skip) (.exit 0))
  (.seq (.block 1 (.seq (.region false [⟨some 15, .mov none (.t 13), [], none⟩,
    ⟨some 5, .mov none (.t 15), [], none⟩])
  (.seq (.region true [⟨some 16, .mov none (.t 0), [], none⟩,
    ⟨some 17, .mov none (.t 5), [], none⟩,
    ⟨some 18, .ixS 1 (.t 16) (.t 17), [1, 0], none⟩,
    ⟨some 19, .load false 1 (.t 18), [2], none⟩,
    ⟨some 20, .mov none (.t 1), [], none⟩,
    ⟨some 21, .mov none (.t 5), [], none⟩,
    ⟨some 22, .ixS 1 (.t 20) (.t 21), [5, 4], none⟩,
    ⟨some 23, .load false 1 (.t 22), [6], none⟩,
    ⟨some 24, .bin .neq (.t 19) (.t 23), [7, 3], none⟩])
  (.cond (.t 24) (.seq (.region false [⟨some 4, .mov none (.k (.one (.iv (.bool false)))), [], none⟩])
  (.ret)) (.skip)))))
  (.region false [⟨some 25, .bin .add (.t 13) (.k (.one (.iv (.int .i64 1)))), [], none⟩,
    ⟨some 13, .mov none (.t 25), [], none⟩])))
def b9 : VCode := .seq (.region false [⟨some 4, .mov none (.k (.one (.iv (.bool false)))), [], none⟩])
  (.seq (.seq (.region false [⟨some 6, .mov none (.t 0), [], none⟩,
    ⟨some 7, .blt .len [.t 6], [], none⟩,
    ⟨some 8, .mov none (.t 1), [], none⟩,
    ⟨some 9, .blt .len [.t 8], [], none⟩,
    ⟨some 10, .bin .neq (.t 7) (.t 9), [], none⟩])
  (.cond (.t 10) (.seq (.region false [⟨some 4, .mov none (.k (.one (.iv (.bool false)))), [], none⟩])
  (.ret)) (.skip)))
  (.seq (.seq (.region false [⟨some 11, .mov none (.t 0), [], none⟩,
    ⟨some 12, .blt .len [.t 11], [], none⟩,
    ⟨some 13, .mov none (.k (.one (.iv (.int .i64 0)))), [], none⟩])
  (.block 0 (.loop false [0, 1, 12, 13] l9_0)))
  (.seq (.region false [⟨some 4, .mov none (.k (.one (.iv (.bool true)))), [], none⟩])
  (.ret))))
def v9 : VFn := ⟨2, 26, [.t 4], b9⟩

theorem c9 : chkFn Try.prog 9 v9 = true := by kernel_rfl

/- scholia/scholialaw32.awake -/
def b10 : VCode := .seq (.region false [⟨some 0, .mov none (.k (.one (.iv (.bool false)))), [], none⟩])
  (.seq (.region false [⟨some 1, .call 8 [(false, .k (.one (.iv (.str ⟨#[102, 111, 120]⟩)))), (false, .k (.one (.iv (.str ⟨#[102, 120, 111]⟩))))], [], none⟩,
    ⟨some 2, .bin .eql (.t 1) (.k (.one (.iv (.int .i64 1)))), [], none⟩,
    ⟨some 3, .mov none (.t 2), [], none⟩,
    ⟨some 4, .call 8 [(false, .k (.one (.iv (.str ⟨#[114, 101, 100]⟩)))), (false, .k (.one (.iv (.str ⟨#[98, 114, 101, 100]⟩))))], [], some (3, true)⟩,
    ⟨some 5, .bin .eql (.t 4) (.k (.one (.iv (.int .i64 1)))), [], some (3, true)⟩,
    ⟨some 6, .pick (.t 3) (.t 5) (.k (.one (.iv (.bool false)))), [], none⟩,
    ⟨some 0, .mov none (.t 6), [], none⟩])
  (.ret))
def v10 : VFn := ⟨0, 7, [.t 0], b10⟩

theorem c10 : chkFn Try.prog 10 v10 = true := by kernel_rfl

/- scholia/scholiaref03.Ends -/
def l23_0 : VCode := .seq (.region false [⟨some 11, .bin .lss (.t 10) (.t 9), [], none⟩])
  (.seq (.cond (.t 11) (.skip) (.exit 0))
  (.seq (.block 1 (.seq (.region false [⟨some 12, .mov none (.t 10), [], none⟩,
    ⟨some 5, .mov none (.t 12), [], none⟩])
  (.seq (.seq (.region false [⟨some 13, .mov none (.t 4), [], none⟩,
    ⟨some 14, .bin .gtr (.t 13) (.k (.one (.iv (.int .i64 0)))), [], none⟩])
  (.cond (.t 14) (.seq (.region false [⟨some 15, .mov none (.t 4), [], none⟩,
    ⟨some 16, .bin .sub (.t 15) (.k (.one (.iv (.int .i64 1)))), [], none⟩,
    ⟨some 4, .mov none (.t 16), [], none⟩])
  (.exit 1)) (.skip)))
  (.seq (.region false [⟨some 18, .mov none (.t 0), [], none⟩,
    ⟨some 19, .mov none (.t 5), [], none⟩,
    ⟨some 20, .call 24 [(false, .t 18), (false, .t 19)], [], none⟩,
    ⟨some 17, .mov none (.t 20), [], none⟩,
    ⟨some 21, .ext 0 (.t 17), [], none⟩,
    ⟨some 22, .ext 1 (.t 17), [], none⟩,
    ⟨some 6, .mov none (.t 21), [], none⟩,
    ⟨some 7, .mov none (.t 22), [], none⟩])
  (.seq (.region false [⟨some 23, .mov none (.t 7), [], none⟩,
    ⟨some 24, .bin .sub (.t 23) (.k (.one (.iv (.int .i64 1)))), [], none⟩,
    ⟨some 4, .mov none (.t 24), [], none⟩])
  (.region false [⟨some 25, .mov none (.t 3), [], none⟩,
    ⟨some 26, .mov none (.t 5), [], none⟩,
    ⟨some 27, .mov none (.t 7), [], none⟩,
    ⟨some 28, .bin .add (.t 26) (.t 27), [], none⟩,
    ⟨some 29, .mks false 1 [.t 28], [], none⟩,
    ⟨some 30, .blt (.append 1 8) [.t 25, .t 29], [], none⟩,
    ⟨some 3, .mov none (.t 30), [], none⟩]))))))
  (.region false [⟨some 31, .bin .add (.t 10) (.k (.one (.iv (.int .i64 1)))), [], none⟩,
    ⟨some 10, .mov none (.t 31), [], none⟩])))
def b23 : VCode := .seq (.region false [⟨some 2, .mov none (.k (.one (.iv (.sl true 0 [])))), [], none⟩])
  (.seq (.region false [⟨some 3, .mov (some 1) (.k (.one (.iv (.sl true 0 [])))), [], none⟩])
  (.seq (.region false [⟨some 4, .mov none (.k (.one (.iv (.int .i64 0)))), [], none⟩])
  (.seq (.seq (.region false [⟨some 8, .mov none (.t 0), [], none⟩,
    ⟨some 9, .blt .lenS [.t 8], [], none⟩,
    ⟨some 10, .mov none (.k (.one (.iv (.int .i64 0)))), [], none⟩])
  (.block 0 (.loop false [0, 3, 4, 9, 10] l23_0)))
  (.seq (.region false [⟨some 32, .mov none (.t 3), [], none⟩,
    ⟨some 2, .mov none (.t 32), [], none⟩])
  (.ret)))))
def v23 : VFn := ⟨1, 33, [.t 2], b23⟩

theorem c23 : chkFn Try.prog 23 v23 = true := by kernel_rfl

/- scholia/scholiaref03.Next -/
def l24_0 : VCode := .seq (.region false [⟨some 22, .bin .lss (.t 21) (.k (.one (.iv (.int .i64 4)))), [], none⟩])
  (.seq (.cond (.t 22) (.skip) (.exit 0))
  (.seq (.block 1 (.seq (.region false [⟨some 23, .mov none (.t 21), [], none⟩,
    ⟨some 7, .mov none (.t 23), [], none⟩])
  (.seq (.region false [⟨some 24, .mov none (.t 7), [], none⟩,
    ⟨some 25, .bin .add (.t 24) (.k (.one (.iv (.int .i64 1)))), [], none⟩,
    ⟨some 8, .mov none (.t 25), [], none⟩])
  (.seq (.seq (.region false [⟨some 26, .mov none (.t 8), [], none⟩,
    ⟨some 27, .mov none (.t 6), [], none⟩,
    ⟨some 28, .blt .lenS [.t 27], [], none⟩,
    ⟨some 29, .bin .gtr (.t 26) (.t 28), [], none⟩])
  (.cond (.t 29) (.seq (.region false [⟨some 4, .mov none (.k (.one (.iv (.int .i64 (-1))))), [], none⟩,
    ⟨some 5, .mov none (.k (.one (.iv (.int .i64 1)))), [], none⟩])
  (.ret)) (.skip)))
  (.seq (.region false [⟨some 9, .mov none (.k (.one (.iv (.int .i64 0)))), [], none⟩])
  (.seq (.seq (.region false [⟨some 30, .mov none (.t 8), [], none⟩,
    ⟨some 31, .bin .eql (.t 30) (.k (.one (.iv (.int .i64 1)))), [], none⟩])
  (.cond (.t 31) (.region false [⟨some 32, .mov none (.t 6), [], none⟩,
    ⟨some 33, .ixT (.t 32) (.k (.one (.iv (.int .i64 0)))), [], none⟩,
    ⟨some 34, .conv .i64 (.t 33), [], none⟩,
    ⟨some 9, .mov none (.t 34), [], none⟩]) (.skip)))
  (.seq (.seq (.region false [⟨some 35, .mov none (.t 8), [], none⟩,
    ⟨some 36, .bin .eql (.t 35) (.k (.one (.iv (.int .i64 2)))), [], none⟩])
  (.cond (.t 36) (.region true [⟨some 37, .mov none (.t 6), [], none⟩,
    ⟨some 38, .ixT (.t 37) (.k (.one (.iv (.int .i64 0)))), [0], none⟩,
    ⟨some 39, .conv .i64 (.t 38), [1], none⟩,
    ⟨some 40, .bin .rem (.t 39) (.k (.one (.iv (.int .i64 32)))), [2], none⟩,
    ⟨some 41, .bin .mul (.t 40) (.k (.one (.iv (.int .i64 64)))), [3], none⟩,
    ⟨some 42, .mov none (.t 6), [], none⟩,
    ⟨some 43, .ixT (.t 42) (.k (.one (.iv (.int .i64 1)))), [5], none⟩,
    ⟨some 44, .call 41 [(false, .t 43)], [6], none⟩,
    ⟨some 45, .bin .add (.t 41) (.t 44), [7, 4], none⟩,
    ⟨some 9, .mov none (.t 45), [8], none⟩]) (.skip)))
  (.seq (.seq (.region false [⟨some 46, .mov none (.t 8), [], none⟩,
    ⟨some 47, .bin .eql (.t 46) (.k (.one (.iv (.int .i64 3)))), [], none⟩])
  (.cond (.t 47) (.region true [⟨some 48, .mov none (.t 6), [], none⟩,
    ⟨some 49, .ixT (.t 48) (.k (.one (.iv (.int .i64 0)))), [0], none⟩,
    ⟨some 50, .conv .i64 (.t 49), [1], none⟩,
    ⟨some 51, .bin .rem (.t 50) (.k (.one (.iv (.int .i64 16)))), [2], none⟩,
    ⟨some 52, .bin .mul (.t 51) (.k (.one (.iv (.int .i64 4096)))), [3], none⟩,
    ⟨some 53, .mov none (.t 6), [], none⟩,
    ⟨some 54, .ixT (.t 53) (.k (.one (.iv (.int .i64 1)))), [5], none⟩,
    ⟨some 55, .call 41 [(false, .t 54)], [6], none⟩,
    ⟨some 56, .bin .mul (.t 55) (.k (.one (.iv (.int .i64 64)))), [7], none⟩,
    ⟨some 57, .bin .add (.t 52) (.t 56), [8, 4], none⟩,
    ⟨some 58, .mov none (.t 6), [], none⟩,
    ⟨some 59, .ixT (.t 58) (.k (.one (.iv (.int .i64 2)))), [10], none⟩,
    ⟨some 60, .call 41 [(false, .t 59)], [11, 7], none⟩,
    ⟨some 61, .bin .add (.t 57) (.t 60), [12, 9], none⟩,
    ⟨some 9, .mov none (.t 61), [13], none⟩]) (.skip)))
  (.seq (.seq (.region false [⟨some 62, .mov none (.t 8), [], none⟩,
    ⟨some 63, .bin .eql (.t 62) (.k (.one (.iv (.int .i64 4)))), [], none⟩])
  (.cond (.t 63) (.region true [⟨some 64, .mov none (.t 6), [], none⟩,
    ⟨some 65, .ixT (.t 64) (.k (.one (.iv (.int .i64 0)))), [0], none⟩,
    ⟨some 66, .conv .i64 (.t 65), [1], none⟩,
    ⟨some 67, .bin .rem (.t 66) (.k (.one (.iv (.int .i64 8)))), [2], none⟩,
    ⟨some 68, .bin .mul (.t 67) (.k (.one (.iv (.int .i64 262144)))), [3], none⟩,
    ⟨some 69, .mov none (.t 6), [], none⟩,
    ⟨some 70, .ixT (.t 69) (.k (.one (.iv (.int .i64 1)))), [5], none⟩,
    ⟨some 71, .call 41 [(false, .t 70)], [6], none⟩,
    ⟨some 72, .bin .mul (.t 71) (.k (.one (.iv (.int .i64 4096)))), [7], none⟩,
    ⟨some 73, .bin .add (.t 68) (.t 72), [8, 4], none⟩,
    ⟨some 74, .mov none (.t 6), [], none⟩,
    ⟨some 75, .ixT (.t 74) (.k (.one (.iv (.int .i64 2)))), [10], none⟩,
    ⟨some 76, .call 41 [(false, .t 75)], [11, 7], none⟩,
    ⟨some 77, .bin .mul (.t 76) (.k (.one (.iv (.int .i64 64)))), [12], none⟩,
    ⟨some 78, .bin .add (.t 73) (.t 77), [13, 9], none⟩,
    ⟨some 79, .mov none (.t 6), [], none⟩,
    ⟨some 80, .ixT (.t 79) (.k (.one (.iv (.int .i64 3)))), [15], none⟩,
    ⟨some 81, .call 41 [(false, .t 80)], [16, 12], none⟩,
    ⟨some 82, .bin .add (.t 78) (.t 81), [17, 14], none⟩,
    ⟨some 9, .mov none (.t 82), [18], none⟩]) (.skip)))
  (.seq (.region true [⟨some 83, .mov none (.t 9), [], none⟩,
    ⟨some 84, .call 42 [(false, .t 83)], [0], none⟩,
    ⟨some 85, .b2s (.t 84), [1], none⟩,
    ⟨some 86, .mov none (.t 6), [], none⟩,
    ⟨some 87, .mov none (.t 8), [], none⟩,
    ⟨some 88, .slT (.t 86) none (some (.t 87)), [4, 3], none⟩,
    ⟨some 89, .bin .eql (.t 85) (.t 88), [5, 2], none⟩])
  (.cond (.t 89) (.seq (.region false [⟨some 90, .mov none (.t 9), [], none⟩,
    ⟨some 91, .mov none (.t 8), [], none⟩,
    ⟨some 4, .mov none (.t 90), [], none⟩,
    ⟨some 5, .mov none (.t 91), [], none⟩])
  (.ret)) (.skip))))))))))))
  (.region false [⟨some 92, .bin .add (.t 21) (.k (.one (.iv (.int .i64 1)))), [], none⟩,
    ⟨some 21, .mov none (.t 92), [], none⟩])))
def b24 : VCode := .seq (.region false [⟨some 4, .mov none (.k (.one (.iv (.int .i64 0)))), [], none⟩,
    ⟨some 5, .mov none (.k (.one (.iv (.int .i64 0)))), [], none⟩])
  (.seq (.seq (.region false [⟨some 10, .mov none (.t 1), [], none⟩,
    ⟨some 11, .bin .lss (.t 10) (.k (.one (.iv (.int .i64 0)))), [], none⟩,
    ⟨some 12, .mov none (.t 11), [], none⟩,
    ⟨some 13, .mov none (.t 1), [], some (12, false)⟩,
    ⟨some 14, .mov none (.t 0), [], some (12, false)⟩,
    ⟨some 15, .blt .lenS [.t 14], [], some (12, false)⟩,
    ⟨some 16, .bin .geq (.t 13) (.t 15), [], some (12, false)⟩,
    ⟨some 17, .pick (.t 12) (.k (.one (.iv (.bool true)))) (.t 16), [], none⟩])
  (.cond (.t 17) (.seq (.region false [⟨some 4, .mov none (.k (.one (.iv (.int .i64 (-1))))), [], none⟩,
    ⟨some 5, .mov none (.k (.one (.iv (.int .i64 0)))), [], none⟩])
  (.ret)) (.skip)))
  (.seq (.region false [⟨some 18, .mov none (.t 0), [], none⟩,
    ⟨some 19, .mov none (.t 1), [], none⟩,
    ⟨some 20, .slT (.t 18) (some (.t 19)) none, [], none⟩,
    ⟨some 6, .mov none (.t 20), [], none⟩])
  (.seq (.seq (.region false [⟨some 21, .mov none (.k (.one (.iv (.int .i64 0)))), [], none⟩])
  (.block 0 (.loop false [6, 21] l24_0)))
  (.seq (.region false [⟨some 4, .mov none (.k (.one (.iv (.int .i64 (-1))))), [], none⟩,
    ⟨some 5, .mov none (.k (.one (.iv (.int .i64 1)))), [], none⟩])
  (.ret)))))
def v24 : VFn := ⟨2, 93, [.t 4, .t 5], b24⟩

theorem c24 : chkFn Try.prog 24 v24 = true := by kernel_rfl

/- scholia/suggest.signs -/
def l25_0 : VCode := .seq (.seq (.region false [⟨some 7, .mov none (.t 4), [], none⟩,
    ⟨some 8, .mov none (.t 0), [], none⟩,
    ⟨some 9, .blt .lenS [.t 8], [], none⟩,
    ⟨some 10, .bin .lss (.t 7) (.t 9), [], none⟩])
  (.cond (.t 10) (.skip) (.exit 0)))
  (.block 1 (.seq (.region false [⟨some 12, .mov none (.t 0), [], none⟩,
    ⟨some 13, .mov none (.t 4), [], none⟩,
    ⟨some 14, .call 43 [(false, .t 12), (false, .t 13)], [], none⟩,
    ⟨some 11, .mov none (.t 14), [], none⟩,
    ⟨some 15, .ext 0 (.t 11), [], none⟩,
    ⟨some 16, .ext 1 (.t 11), [], none⟩,
    ⟨some 5, .mov none (.t 15), [], none⟩,
    ⟨some 6, .mov none (.t 16), [], none⟩])
  (.seq (.seq (.region false [⟨some 17, .mov none (.t 5), [], none⟩,
    ⟨some 18, .bin .lss (.t 17) (.k (.one (.iv (.int .i64 0)))), [], none⟩])
  (.cond (.t 18) (.region false [⟨some 19, .mov none (.t 0), [], none⟩,
    ⟨some 20, .mov none (.t 4), [], none⟩,
    ⟨some 21, .ixT (.t 19) (.t 20), [], none⟩,
    ⟨some 22, .conv .i64 (.t 21), [], none⟩,
    ⟨some 23, .bin .sub (.k (.one (.iv (.int .i64 (-1))))) (.t 22), [], none⟩,
    ⟨some 5, .mov none (.t 23), [], none⟩]) (.skip)))
  (.seq (.region false [⟨some 24, .mov none (.t 3), [], none⟩,
    ⟨some 25, .mov none (.t 5), [], none⟩,
    ⟨some 26, .mks false 1 [.t 25], [], none⟩,
    ⟨some 27, .blt (.append 1 8) [.t 24, .t 26], [], none⟩,
    ⟨some 3, .mov none (.t 27), [], none⟩])
  (.region false [⟨some 28, .mov none (.t 4), [], none⟩,
    ⟨some 29, .mov none (.t 6), [], none⟩,
    ⟨some 30, .bin .add (.t 28) (.t 29), [], none⟩,
    ⟨some 4, .mov none (.t 30), [], none⟩])))))
def b25 : VCode := .seq (.region false [⟨some 2, .mov none (.k (.one (.iv (.sl true 0 [])))), [], none⟩])
  (.seq (.region false [⟨some 3, .mov (some 1) (.k (.one (.iv (.sl true 0 [])))), [], none⟩])
  (.seq (.seq (.region false [⟨some 4, .mov none (.k (.one (.iv (.int .i64 0)))), [], none⟩])
  (.block 0 (.loop false [0, 3, 4] l25_0)))
  (.seq (.region false [⟨some 31, .mov none (.t 3), [], none⟩,
    ⟨some 2, .mov none (.t 31), [], none⟩])
  (.ret))))
def v25 : VFn := ⟨1, 32, [.t 2], b25⟩

theorem c25 : chkFn Try.prog 25 v25 = true := by kernel_rfl

/- scholia/suggest.row -/
def l26_0 : VCode := .seq (.seq (.region false [⟨some 16, .mov none (.t 12), [], none⟩,
    ⟨some 17, .mov none (.t 1), [], none⟩,
    ⟨some 18, .blt .len [.t 17], [], none⟩,
    ⟨some 19, .bin .leq (.t 16) (.t 18), [], none⟩])
  (.cond (.t 19) (.skip) (.exit 0)))
  (.seq (.block 1 (.seq (.region true [⟨some 22, .mov none (.t 3), [], none⟩,
    ⟨some 23, .mov none (.t 12), [], none⟩,
    ⟨some 24, .ixS 1 (.t 22) (.t 23), [1, 0], none⟩,
    ⟨some 25, .load false 1 (.t 24), [2], none⟩,
    ⟨some 26, .mov none (.t 11), [], none⟩,
    ⟨some 27, .mov none (.t 12), [], none⟩,
    ⟨some 28, .bin .sub (.t 27) (.k (.one (.iv (.int .i64 1)))), [5], none⟩,
    ⟨some 29, .ixS 1 (.t 26) (.t 28), [6, 4], none⟩,
    ⟨some 30, .load false 1 (.t 29), [7], none⟩,
    ⟨some 31, .blt .min [.t 25, .t 30], [8, 3], none⟩,
    ⟨some 32, .bin .add (.t 31) (.k (.one (.iv (.int .i64 1)))), [9], none⟩,
    ⟨some 13, .mov none (.t 32), [10], none⟩])
  (.seq (.seq (.region true [⟨some 33, .mov none (.t 0), [], none⟩,
    ⟨some 34, .mov none (.t 2), [], none⟩,
    ⟨some 35, .bin .sub (.t 34) (.k (.one (.iv (.int .i64 1)))), [1], none⟩,
    ⟨some 36, .ixS 1 (.t 33) (.t 35), [2, 0], none⟩,
    ⟨some 37, .load false 1 (.t 36), [3], none⟩,
    ⟨some 38, .mov none (.t 1), [], none⟩,
    ⟨some 39, .mov none (.t 12), [], none⟩,
    ⟨some 40, .bin .sub (.t 39) (.k (.one (.iv (.int .i64 1)))), [6], none⟩,
    ⟨some 41, .ixS 1 (.t 38) (.t 40), [7, 5], none⟩,
    ⟨some 42, .load false 1 (.t 41), [8], none⟩,
    ⟨some 43, .bin .eql (.t 37) (.t 42), [9, 4], none⟩])
  (.cond (.t 43) (.region false [⟨some 44, .mov none (.t 13), [], none⟩,
    ⟨some 45, .mov none (.t 3), [], none⟩,
    ⟨some 46, .mov none (.t 12), [], none⟩,
    ⟨some 47, .bin .sub (.t 46) (.k (.one (.iv (.int .i64 1)))), [], none⟩,
    ⟨some 48, .ixS 1 (.t 45) (.t 47), [], none⟩,
    ⟨some 49, .load false 1 (.t 48), [], none⟩,
    ⟨some 50, .blt .min [.t 44, .t 49], [], none⟩,
    ⟨some 13, .mov none (.t 50), [], none⟩]) (.region false [⟨some 51, .mov none (.t 13), [], none⟩,
    ⟨some 52, .mov none (.t 3), [], none⟩,
    ⟨some 53, .mov none (.t 12), [], none⟩,
    ⟨some 54, .bin .sub (.t 53) (.k (.one (.iv (.int .i64 1)))), [], none⟩,
    ⟨some 55, .ixS 1 (.t 52) (.t 54), [], none⟩,
    ⟨some 56, .load false 1 (.t 55), [], none⟩,
    ⟨some 57, .bin .add (.t 56) (.k (.one (.iv (.int .i64 1)))), [], none⟩,
    ⟨some 58, .blt .min [.t 51, .t 57], [], none⟩,
    ⟨some 13, .mov none (.t 58), [], none⟩])))
  (.seq (.seq (.region false [⟨some 59, .mov none (.t 0), [], none⟩,
    ⟨some 60, .mov none (.t 1), [], none⟩,
    ⟨some 61, .mov none (.t 2), [], none⟩,
    ⟨some 62, .mov none (.t 12), [], none⟩,
    ⟨some 63, .call 44 [(false, .t 59), (false, .t 60), (false, .t 61), (false, .t 62)], [], none⟩])
  (.cond (.t 63) (.region false [⟨some 64, .mov none (.t 13), [], none⟩,
    ⟨some 65, .mov none (.t 4), [], none⟩,
    ⟨some 66, .mov none (.t 12), [], none⟩,
    ⟨some 67, .bin .sub (.t 66) (.k (.one (.iv (.int .i64 2)))), [], none⟩,
    ⟨some 68, .ixS 1 (.t 65) (.t 67), [], none⟩,
    ⟨some 69, .load false 1 (.t 68), [], none⟩,
    ⟨some 70, .bin .add (.t 69) (.k (.one (.iv (.int .i64 1)))), [], none⟩,
    ⟨some 71, .blt .min [.t 64, .t 70], [], none⟩,
    ⟨some 13, .mov none (.t 71), [], none⟩]) (.skip)))
  (.region false [⟨some 72, .mov none (.t 11), [], none⟩,
    ⟨some 73, .mov none (.t 13), [], none⟩,
    ⟨some 74, .mks false 1 [.t 73], [], none⟩,
    ⟨some 75, .blt (.append 1 8) [.t 72, .t 74], [], none⟩,
    ⟨some 11, .mov none (.t 75), [], none⟩])))))
  (.region false [⟨some 20, .mov none (.t 12), [], none⟩,
    ⟨some 21, .bin .add (.t 20) (.k (.one (.iv (.int .i64 1)))), [], none⟩,
    ⟨some 12, .mov none (.t 21), [], none⟩]))
def b26 : VCode := .seq (.region false [⟨some 10, .mov none (.k (.one (.iv (.sl true 0 [])))), [], none⟩])
  (.seq (.region false [⟨some 14, .mov none (.t 2), [], none⟩,
    ⟨some 15, .mks true 1 [.t 14], [], none⟩,
    ⟨some 11, .mov none (.t 15), [], none⟩])
  (.seq (.seq (.region false [⟨some 12, .mov none (.k (.one (.iv (.int .i64 1)))), [], none⟩])
  (.block 0 (.loop false [0, 1, 2, 3, 4, 11, 12] l26_0)))
  (.seq (.region false [⟨some 76, .mov none (.t 11), [], none⟩,
    ⟨some 10, .mov none (.t 76), [], none⟩])
  (.ret))))
def v26 : VFn := ⟨5, 77, [.t 10], b26⟩

theorem c26 : chkFn Try.prog 26 v26 = true := by kernel_rfl

/- scholia/scholiaref03.value -/
def b41 : VCode := .seq (.region false [⟨some 2, .mov none (.k (.one (.iv (.int .i64 0)))), [], none⟩])
  (.seq (.region false [⟨some 3, .mov none (.t 0), [], none⟩,
    ⟨some 4, .conv .i64 (.t 3), [], none⟩,
    ⟨some 5, .bin .rem (.t 4) (.k (.one (.iv (.int .i64 64)))), [], none⟩,
    ⟨some 2, .mov none (.t 5), [], none⟩])
  (.ret))
def v41 : VFn := ⟨1, 6, [.t 2], b41⟩

theorem c41 : chkFn Try.prog 41 v41 = true := by kernel_rfl

/- scholia/scholiaref03.Bytes -/
def b42 : VCode := .seq (.region false [⟨some 2, .mov none (.k (.one (.iv (.sl true 0 [])))), [], none⟩])
  (.seq (.seq (.region false [⟨some 3, .mov none (.t 0), [], none⟩,
    ⟨some 4, .call 77 [(false, .t 3)], [], none⟩,
    ⟨some 5, .un .not (.t 4), [], none⟩])
  (.cond (.t 5) (.seq (.region false [⟨some 2, .mov none (.k (.one (.iv (.sl true 0 [])))), [], none⟩])
  (.ret)) (.skip)))
  (.seq (.seq (.region false [⟨some 6, .mov none (.t 0), [], none⟩,
    ⟨some 7, .bin .leq (.t 6) (.k (.one (.iv (.int .i64 127)))), [], none⟩])
  (.cond (.t 7) (.seq (.region false [⟨some 8, .mov none (.t 0), [], none⟩,
    ⟨some 9, .conv .u8 (.t 8), [], none⟩,
    ⟨some 10, .mks false 1 [.t 9], [], none⟩,
    ⟨some 2, .mov none (.t 10), [], none⟩])
  (.ret)) (.skip)))
  (.seq (.seq (.region false [⟨some 11, .mov none (.t 0), [], none⟩,
    ⟨some 12, .bin .leq (.t 11) (.k (.one (.iv (.int .i64 2047)))), [], none⟩])
  (.cond (.t 12) (.seq (.region false [⟨some 13, .mov none (.t 0), [], none⟩,
    ⟨some 14, .bin .quo (.t 13) (.k (.one (.iv (.int .i64 64)))), [], none⟩,
    ⟨some 15, .bin .add (.k (.one (.iv (.int .i64 192)))) (.t 14), [], none⟩,
    ⟨some 16, .conv .u8 (.t 15), [], none⟩,
    ⟨some 17, .mov none (.t 0), [], none⟩,
    ⟨some 18, .bin .rem (.t 17) (.k (.one (.iv (.int .i64 64)))), [], none⟩,
    ⟨some 19, .bin .add (.k (.one (.iv (.int .i64 128)))) (.t 18), [], none⟩,
    ⟨some 20, .conv .u8 (.t 19), [], none⟩,
    ⟨some 21, .mks false 1 [.t 16, .t 20], [], none⟩,
    ⟨some 2, .mov none (.t 21), [], none⟩])
  (.ret)) (.skip)))
  (.seq (.seq (.region false [⟨some 22, .mov none (.t 0), [], none⟩,
    ⟨some 23, .bin .leq (.t 22) (.k (.one (.iv (.int .i64 65535)))), [], none⟩])
  (.cond (.t 23) (.seq (.region false [⟨some 24, .mov none (.t 0), [], none⟩,
    ⟨some 25, .bin .quo (.t 24) (.k (.one (.iv (.int .i64 4096)))), [], none⟩,
    ⟨some 26, .bin .add (.k (.one (.iv (.int .i64 224)))) (.t 25), [], none⟩,
    ⟨some 27, .conv .u8 (.t 26), [], none⟩,
    ⟨some 28, .mov none (.t 0), [], none⟩,
    ⟨some 29, .bin .quo (.t 28) (.k (.one (.iv (.int .i64 64)))), [], none⟩,
    ⟨some 30, .bin .rem (.t 29) (.k (.one (.iv (.int .i64 64)))), [], none⟩,
    ⟨some 31, .bin .add (.k (.one (.iv (.int .i64 128)))) (.t 30), [], none⟩,
    ⟨some 32, .conv .u8 (.t 31), [], none⟩,
    ⟨some 33, .mov none (.t 0), [], none⟩,
    ⟨some 34, .bin .rem (.t 33) (.k (.one (.iv (.int .i64 64)))), [], none⟩,
    ⟨some 35, .bin .add (.k (.one (.iv (.int .i64 128)))) (.t 34), [], none⟩,
    ⟨some 36, .conv .u8 (.t 35), [], none⟩,
    ⟨some 37, .mks false 1 [.t 27, .t 32, .t 36], [], none⟩,
    ⟨some 2, .mov none (.t 37), [], none⟩])
  (.ret)) (.skip)))
  (.seq (.region false [⟨some 38, .mov none (.t 0), [], none⟩,
    ⟨some 39, .bin .quo (.t 38) (.k (.one (.iv (.int .i64 262144)))), [], none⟩,
    ⟨some 40, .bin .add (.k (.one (.iv (.int .i64 240)))) (.t 39), [], none⟩,
    ⟨some 41, .conv .u8 (.t 40), [], none⟩,
    ⟨some 42, .mov none (.t 0), [], none⟩,
    ⟨some 43, .bin .quo (.t 42) (.k (.one (.iv (.int .i64 4096)))), [], none⟩,
    ⟨some 44, .bin .rem (.t 43) (.k (.one (.iv (.int .i64 64)))), [], none⟩,
    ⟨some 45, .bin .add (.k (.one (.iv (.int .i64 128)))) (.t 44), [], none⟩,
    ⟨some 46, .conv .u8 (.t 45), [], none⟩,
    ⟨some 47, .mov none (.t 0), [], none⟩,
    ⟨some 48, .bin .quo (.t 47) (.k (.one (.iv (.int .i64 64)))), [], none⟩,
    ⟨some 49, .bin .rem (.t 48) (.k (.one (.iv (.int .i64 64)))), [], none⟩,
    ⟨some 50, .bin .add (.k (.one (.iv (.int .i64 128)))) (.t 49), [], none⟩,
    ⟨some 51, .conv .u8 (.t 50), [], none⟩,
    ⟨some 52, .mov none (.t 0), [], none⟩,
    ⟨some 53, .bin .rem (.t 52) (.k (.one (.iv (.int .i64 64)))), [], none⟩,
    ⟨some 54, .bin .add (.k (.one (.iv (.int .i64 128)))) (.t 53), [], none⟩,
    ⟨some 55, .conv .u8 (.t 54), [], none⟩,
    ⟨some 56, .mks false 1 [.t 41, .t 46, .t 51, .t 55], [], none⟩,
    ⟨some 2, .mov none (.t 56), [], none⟩])
  (.ret))))))
def v42 : VFn := ⟨1, 57, [.t 2], b42⟩

theorem c42 : chkFn Try.prog 42 v42 = true := by kernel_rfl

/- scholia/utf.Next -/
def l43_0 : VCode := .seq (.region false [⟨some 47, .bin .lss (.t 46) (.t 45), [], none⟩])
  (.seq (.cond (.t 47) (.skip) (.exit 0))
  (.seq (.block 1 (.seq (.region false [⟨some 48, .ixS 1 (.t 44) (.t 46), [], none⟩,
    ⟨some 49, .load false 1 (.t 48), [], none⟩,
    ⟨some 9, .mov none (.t 49), [], none⟩])
  (.seq (.seq (.region false [⟨some 50, .mov none (.t 9), [], none⟩,
    ⟨some 51, .bin .and (.t 50) (.k (.one (.iv (.int .u8 192)))), [], none⟩,
    ⟨some 52, .bin .neq (.t 51) (.k (.one (.iv (.int .u8 128)))), [], none⟩])
  (.cond (.t 52) (.seq (.region false [⟨some 4, .mov none (.k (.one (.iv (.int .i64 (-1))))), [], none⟩,
    ⟨some 5, .mov none (.k (.one (.iv (.int .i64 1)))), [], none⟩])
  (.ret)) (.skip)))
  (.region false [⟨some 53, .mov none (.t 7), [], none⟩,
    ⟨some 54, .bin .shl (.t 53) (.k (.one (.iv (.int .u64 6)))), [], none⟩,
    ⟨some 55, .mov none (.t 9), [], none⟩,
    ⟨some 56, .bin .and (.t 55) (.k (.one (.iv (.int .u8 63)))), [], none⟩,
    ⟨some 57, .conv .i64 (.t 56), [], none⟩,
    ⟨some 58, .bin .or (.t 54) (.t 57), [], none⟩,
    ⟨some 7, .mov none (.t 58), [], none⟩]))))
  (.region false [⟨some 59, .bin .add (.t 46) (.k (.one (.iv (.int .i64 1)))), [], none⟩,
    ⟨some 46, .mov none (.t 59), [], none⟩])))
def b43 : VCode := .seq (.region false [⟨some 4, .mov none (.k (.one (.iv (.int .i64 0)))), [], none⟩,
    ⟨some 5, .mov none (.k (.one (.iv (.int .i64 0)))), [], none⟩])
  (.seq (.seq (.region false [⟨some 10, .mov none (.t 1), [], none⟩,
    ⟨some 11, .bin .lss (.t 10) (.k (.one (.iv (.int .i64 0)))), [], none⟩,
    ⟨some 12, .mov none (.t 11), [], none⟩,
    ⟨some 13, .mov none (.t 1), [], some (12, false)⟩,
    ⟨some 14, .mov none (.t 0), [], some (12, false)⟩,
    ⟨some 15, .blt .lenS [.t 14], [], some (12, false)⟩,
    ⟨some 16, .bin .geq (.t 13) (.t 15), [], some (12, false)⟩,
    ⟨some 17, .pick (.t 12) (.k (.one (.iv (.bool true)))) (.t 16), [], none⟩])
  (.cond (.t 17) (.seq (.region false [⟨some 4, .mov none (.k (.one (.iv (.int .i64 (-1))))), [], none⟩,
    ⟨some 5, .mov none (.k (.one (.iv (.int .i64 0)))), [], none⟩])
  (.ret)) (.skip)))
  (.seq (.region false [⟨some 18, .mov none (.t 0), [], none⟩,
    ⟨some 19, .mov none (.t 1), [], none⟩,
    ⟨some 20, .ixT (.t 18) (.t 19), [], none⟩,
    ⟨some 21, .call 78 [(false, .t 20)], [], none⟩,
    ⟨some 6, .new [.iv (.int .i64 0), .iv (.int .i64 0), .iv (.int .i64 0)], [], none⟩,
    ⟨none, .store 3 (.t 6) (.t 21), [], none⟩])
  (.seq (.seq (.region false [⟨some 22, .fad 0 (.t 6), [], none⟩,
    ⟨some 23, .load false 1 (.t 22), [], none⟩,
    ⟨some 24, .bin .eql (.t 23) (.k (.one (.iv (.int .i64 0)))), [], none⟩,
    ⟨some 25, .mov none (.t 24), [], none⟩,
    ⟨some 26, .fad 0 (.t 6), [], some (25, false)⟩,
    ⟨some 27, .load false 1 (.t 26), [], some (25, false)⟩,
    ⟨some 28, .mov none (.t 0), [], some (25, false)⟩,
    ⟨some 29, .blt .lenS [.t 28], [], some (25, false)⟩,
    ⟨some 30, .mov none (.t 1), [], some (25, false)⟩,
    ⟨some 31, .bin .sub (.t 29) (.t 30), [], some (25, false)⟩,
    ⟨some 32, .bin .gtr (.t 27) (.t 31), [], some (25, false)⟩,
    ⟨some 33, .pick (.t 25) (.k (.one (.iv (.bool true)))) (.t 32), [], none⟩])
  (.cond (.t 33) (.seq (.region false [⟨some 4, .mov none (.k (.one (.iv (.int .i64 (-1))))), [], none⟩,
    ⟨some 5, .mov none (.k (.one (.iv (.int .i64 1)))), [], none⟩])
  (.ret)) (.skip)))
  (.seq (.region false [⟨some 34, .fad 1 (.t 6), [], none⟩,
    ⟨some 35, .load false 1 (.t 34), [], none⟩,
    ⟨some 7, .mov none (.t 35), [], none⟩])
  (.seq (.seq (.region false [⟨some 36, .mov none (.t 0), [], none⟩,
    ⟨some 37, .mov none (.t 1), [], none⟩,
    ⟨some 38, .bin .add (.t 37) (.k (.one (.iv (.int .i64 1)))), [], none⟩,
    ⟨some 39, .mov none (.t 1), [], none⟩,
    ⟨some 40, .fad 0 (.t 6), [], none⟩,
    ⟨some 41, .load false 1 (.t 40), [], none⟩,
    ⟨some 42, .bin .add (.t 39) (.t 41), [], none⟩,
    ⟨some 43, .slT (.t 36) (some (.t 38)) (some (.t 42)), [], none⟩,
    ⟨some 44, .s2b (.t 43), [], none⟩,
    ⟨some 45, .blt .len [.t 44], [], none⟩,
    ⟨some 46, .mov none (.k (.one (.iv (.int .i64 0)))), [], none⟩])
  (.block 0 (.loop false [6, 7, 44, 45, 46] l43_0)))
  (.seq (.seq (.region false [⟨some 60, .mov none (.t 7), [], none⟩,
    ⟨some 61, .fad 2 (.t 6), [], none⟩,
    ⟨some 62, .load false 1 (.t 61), [], none⟩,
    ⟨some 63, .bin .lss (.t 60) (.t 62), [], none⟩,
    ⟨some 64, .mov none (.t 63), [], none⟩,
    ⟨some 65, .mov none (.t 7), [], some (64, false)⟩,
    ⟨some 66, .call 79 [(false, .t 65)], [], some (64, false)⟩,
    ⟨some 67, .un .not (.t 66), [], some (64, false)⟩,
    ⟨some 68, .pick (.t 64) (.k (.one (.iv (.bool true)))) (.t 67), [], none⟩])
  (.cond (.t 68) (.seq (.region false [⟨some 4, .mov none (.k (.one (.iv (.int .i64 (-1))))), [], none⟩,
    ⟨some 5, .mov none (.k (.one (.iv (.int .i64 1)))), [], none⟩])
  (.ret)) (.skip)))
  (.seq (.region true [⟨some 69, .mov none (.t 7), [], none⟩,
    ⟨some 70, .fad 0 (.t 6), [], none⟩,
    ⟨some 71, .load false 1 (.t 70), [1], none⟩,
    ⟨some 4, .mov none (.t 69), [0], none⟩,
    ⟨some 5, .mov none (.t 71), [3, 2], none⟩])
  (.ret))))))))
def v43 : VFn := ⟨2, 72, [.t 4, .t 5], b43⟩

theorem c43 : chkFn Try.prog 43 v43 = true := by kernel_rfl

/- scholia/suggest.swapped -/
def b44 : VCode := .seq (.region false [⟨some 8, .mov none (.k (.one (.iv (.bool false)))), [], none⟩])
  (.seq (.region true [⟨some 9, .mov none (.t 2), [], none⟩,
    ⟨some 10, .bin .gtr (.t 9) (.k (.one (.iv (.int .i64 1)))), [0], none⟩,
    ⟨some 11, .mov none (.t 10), [1], none⟩,
    ⟨some 12, .mov none (.t 3), [2], some (11, true)⟩,
    ⟨some 13, .bin .gtr (.t 12) (.k (.one (.iv (.int .i64 1)))), [3], some (11, true)⟩,
    ⟨some 14, .pick (.t 11) (.t 13) (.k (.one (.iv (.bool false)))), [4], none⟩,
    ⟨some 15, .mov none (.t 14), [5], none⟩,
    ⟨some 16, .mov none (.t 0), [6], some (15, true)⟩,
    ⟨some 17, .mov none (.t 2), [6], some (15, true)⟩,
    ⟨some 18, .bin .sub (.t 17) (.k (.one (.iv (.int .i64 1)))), [8], some (15, true)⟩,
    ⟨some 19, .ixS 1 (.t 16) (.t 18), [9, 7], some (15, true)⟩,
    ⟨some 20, .load false 1 (.t 19), [10], some (15, true)⟩,
    ⟨some 21, .mov none (.t 1), [6], some (15, true)⟩,
    ⟨some 22, .mov none (.t 3), [6], some (15, true)⟩,
    ⟨some 23, .bin .sub (.t 22) (.k (.one (.iv (.int .i64 2)))), [13], some (15, true)⟩,
    ⟨some 24, .ixS 1 (.t 21) (.t 23), [14, 12], some (15, true)⟩,
    ⟨some 25, .load false 1 (.t 24), [15], some (15, true)⟩,
    ⟨some 26, .bin .eql (.t 20) (.t 25), [16, 11], some (15, true)⟩,
    ⟨some 27, .pick (.t 15) (.t 26) (.k (.one (.iv (.bool false)))), [17], none⟩,
    ⟨some 28, .mov none (.t 27), [18], none⟩,
    ⟨some 29, .mov none (.t 0), [19], some (28, true)⟩,
    ⟨some 30, .mov none (.t 2), [19], some (28, true)⟩,
    ⟨some 31, .bin .sub (.t 30) (.k (.one (.iv (.int .i64 2)))), [21], some (28, true)⟩,
    ⟨some 32, .ixS 1 (.t 29) (.t 31), [22, 20], some (28, true)⟩,
    ⟨some 33, .load false 1 (.t 32), [23], some (28, true)⟩,
    ⟨some 34, .mov none (.t 1), [19], some (28, true)⟩,
    ⟨some 35, .mov none (.t 3), [19], some (28, true)⟩,
    ⟨some 36, .bin .sub (.t 35) (.k (.one (.iv (.int .i64 1)))), [26], some (28, true)⟩,
    ⟨some 37, .ixS 1 (.t 34) (.t 36), [27, 25], some (28, true)⟩,
    ⟨some 38, .load false 1 (.t 37), [28], some (28, true)⟩,
    ⟨some 39, .bin .eql (.t 33) (.t 38), [29, 24], some (28, true)⟩,
    ⟨some 40, .pick (.t 28) (.t 39) (.k (.one (.iv (.bool false)))), [30], none⟩,
    ⟨some 8, .mov none (.t 40), [31], none⟩])
  (.ret))
def v44 : VFn := ⟨4, 41, [.t 8], b44⟩

theorem c44 : chkFn Try.prog 44 v44 = true := by kernel_rfl

/- scholia/scholiaref03.Sign -/
def b77 : VCode := .seq (.region false [⟨some 2, .mov none (.k (.one (.iv (.bool false)))), [], none⟩])
  (.seq (.region false [⟨some 3, .mov none (.t 0), [], none⟩,
    ⟨some 4, .bin .geq (.t 3) (.k (.one (.iv (.int .i64 0)))), [], none⟩,
    ⟨some 5, .mov none (.t 4), [], none⟩,
    ⟨some 6, .mov none (.t 0), [], some (5, true)⟩,
    ⟨some 7, .bin .lss (.t 6) (.k (.one (.iv (.int .i64 55296)))), [], some (5, true)⟩,
    ⟨some 8, .pick (.t 5) (.t 7) (.k (.one (.iv (.bool false)))), [], none⟩,
    ⟨some 9, .mov none (.t 8), [], none⟩,
    ⟨some 10, .mov none (.t 0), [], some (9, false)⟩,
    ⟨some 11, .bin .gtr (.t 10) (.k (.one (.iv (.int .i64 57343)))), [], some (9, false)⟩,
    ⟨some 12, .mov none (.t 11), [], some (9, false)⟩,
    ⟨some 13, .mov none (.t 0), [], some (12, true)⟩,
    ⟨some 14, .bin .leq (.t 13) (.k (.one (.iv (.int .i64 1114111)))), [], some (12, true)⟩,
    ⟨some 15, .pick (.t 12) (.t 14) (.k (.one (.iv (.bool false)))), [], some (9, false)⟩,
    ⟨some 16, .pick (.t 9) (.k (.one (.iv (.bool true)))) (.t 15), [], none⟩,
    ⟨some 2, .mov none (.t 16), [], none⟩])
  (.ret))
def v77 : VFn := ⟨1, 17, [.t 2], b77⟩

theorem c77 : chkFn Try.prog 77 v77 = true := by kernel_rfl

/- scholia/utf.first -/
def b78 : VCode := .seq (.region false [⟨some 2, .new [.iv (.int .i64 0), .iv (.int .i64 0), .iv (.int .i64 0)], [], none⟩])
  (.seq (.block 0 (.seq (.region false [⟨some 4, .mov none (.t 0), [], none⟩,
    ⟨some 5, .bin .lss (.t 4) (.k (.one (.iv (.int .u8 128)))), [], none⟩,
    ⟨some 3, .mov none (.t 5), [], none⟩])
  (.cond (.t 3) (.seq (.region false [⟨some 6, .mov none (.t 0), [], none⟩,
    ⟨some 7, .conv .i64 (.t 6), [], none⟩,
    ⟨some 8, .build [.iv (.int .i64 0), .iv (.int .i64 0), .iv (.int .i64 0)] [(0, 1, .k (.one (.iv (.int .i64 1)))), (1, 1, .t 7), (2, 1, .k (.one (.iv (.int .i64 0))))], [], none⟩,
    ⟨none, .store 3 (.t 2) (.t 8), [], none⟩])
  (.ret)) (.seq (.region false [⟨some 10, .mov none (.t 0), [], none⟩,
    ⟨some 11, .bin .lss (.t 10) (.k (.one (.iv (.int .u8 192)))), [], none⟩,
    ⟨some 9, .mov none (.t 11), [], none⟩])
  (.cond (.t 9) (.seq (.region false [⟨some 12, .build [.iv (.int .i64 0), .iv (.int .i64 0), .iv (.int .i64 0)] [], [], none⟩,
    ⟨none, .store 3 (.t 2) (.t 12), [], none⟩])
  (.ret)) (.seq (.region false [⟨some 14, .mov none (.t 0), [], none⟩,
    ⟨some 15, .bin .lss (.t 14) (.k (.one (.iv (.int .u8 224)))), [], none⟩,
    ⟨some 13, .mov none (.t 15), [], none⟩])
  (.cond (.t 13) (.seq (.region false [⟨some 16, .mov none (.t 0), [], none⟩,
    ⟨some 17, .bin .and (.t 16) (.k (.one (.iv (.int .u8 31)))), [], none⟩,
    ⟨some 18, .conv .i64 (.t 17), [], none⟩,
    ⟨some 19, .build [.iv (.int .i64 0), .iv (.int .i64 0), .iv (.int .i64 0)] [(0, 1, .k (.one (.iv (.int .i64 2)))), (1, 1, .t 18), (2, 1, .k (.one (.iv (.int .i64 128))))], [], none⟩,
    ⟨none, .store 3 (.t 2) (.t 19), [], none⟩])
  (.ret)) (.seq (.region false [⟨some 21, .mov none (.t 0), [], none⟩,
    ⟨some 22, .bin .lss (.t 21) (.k (.one (.iv (.int .u8 240)))), [], none⟩,
    ⟨some 20, .mov none (.t 22), [], none⟩])
  (.cond (.t 20) (.seq (.region false [⟨some 23, .mov none (.t 0), [], none⟩,
    ⟨some 24, .bin .and (.t 23) (.k (.one (.iv (.int .u8 15)))), [], none⟩,
    ⟨some 25, .conv .i64 (.t 24), [], none⟩,
    ⟨some 26, .build [.iv (.int .i64 0), .iv (.int .i64 0), .iv (.int .i64 0)] [(0, 1, .k (.one (.iv (.int .i64 3)))), (1, 1, .t 25), (2, 1, .k (.one (.iv (.int .i64 2048))))], [], none⟩,
    ⟨none, .store 3 (.t 2) (.t 26), [], none⟩])
  (.ret)) (.seq (.region false [⟨some 28, .mov none (.t 0), [], none⟩,
    ⟨some 29, .bin .lss (.t 28) (.k (.one (.iv (.int .u8 248)))), [], none⟩,
    ⟨some 27, .mov none (.t 29), [], none⟩])
  (.cond (.t 27) (.seq (.region false [⟨some 30, .mov none (.t 0), [], none⟩,
    ⟨some 31, .bin .and (.t 30) (.k (.one (.iv (.int .u8 7)))), [], none⟩,
    ⟨some 32, .conv .i64 (.t 31), [], none⟩,
    ⟨some 33, .build [.iv (.int .i64 0), .iv (.int .i64 0), .iv (.int .i64 0)] [(0, 1, .k (.one (.iv (.int .i64 4)))), (1, 1, .t 32), (2, 1, .k (.one (.iv (.int .i64 65536))))], [], none⟩,
    ⟨none, .store 3 (.t 2) (.t 33), [], none⟩])
  (.ret)) (.skip))))))))))))
  (.seq (.region false [⟨some 34, .build [.iv (.int .i64 0), .iv (.int .i64 0), .iv (.int .i64 0)] [], [], none⟩,
    ⟨none, .store 3 (.t 2) (.t 34), [], none⟩])
  (.ret)))
def v78 : VFn := ⟨1, 35, [.c 2 true 3], b78⟩

theorem c78 : chkFn Try.prog 78 v78 = true := by kernel_rfl

/- scholia/utf.Sign -/
def b79 : VCode := .seq (.region false [⟨some 2, .mov none (.k (.one (.iv (.bool false)))), [], none⟩])
  (.seq (.region false [⟨some 3, .mov none (.t 0), [], none⟩,
    ⟨some 4, .bin .geq (.t 3) (.k (.one (.iv (.int .i64 0)))), [], none⟩,
    ⟨some 5, .mov none (.t 4), [], none⟩,
    ⟨some 6, .mov none (.t 0), [], some (5, true)⟩,
    ⟨some 7, .bin .leq (.t 6) (.k (.one (.iv (.int .i64 1114111)))), [], some (5, true)⟩,
    ⟨some 8, .pick (.t 5) (.t 7) (.k (.one (.iv (.bool false)))), [], none⟩,
    ⟨some 9, .mov none (.t 8), [], none⟩,
    ⟨some 10, .mov none (.t 0), [], some (9, true)⟩,
    ⟨some 11, .bin .lss (.t 10) (.k (.one (.iv (.int .i64 55296)))), [], some (9, true)⟩,
    ⟨some 12, .mov none (.t 11), [], some (9, true)⟩,
    ⟨some 13, .mov none (.t 0), [], some (12, false)⟩,
    ⟨some 14, .bin .gtr (.t 13) (.k (.one (.iv (.int .i64 57343)))), [], some (12, false)⟩,
    ⟨some 15, .pick (.t 12) (.k (.one (.iv (.bool true)))) (.t 14), [], some (9, true)⟩,
    ⟨some 16, .pick (.t 9) (.t 15) (.k (.one (.iv (.bool false)))), [], none⟩,
    ⟨some 2, .mov none (.t 16), [], none⟩])
  (.ret))
def v79 : VFn := ⟨1, 17, [.t 2], b79⟩

theorem c79 : chkFn Try.prog 79 v79 = true := by kernel_rfl

def tab : List (Nat × VFn) := [(3, v3), (7, v7), (8, v8), (9, v9), (10, v10), (23, v23), (24, v24), (25, v25), (26, v26), (41, v41), (42, v42), (43, v43), (44, v44), (77, v77), (78, v78), (79, v79)]

theorem tab_ok : TabOK Try.prog (lookT tab) := tabOK_cons c3 (tabOK_cons c7 (tabOK_cons c8 (tabOK_cons c9 (tabOK_cons c10 (tabOK_cons c23 (tabOK_cons c24 (tabOK_cons c25 (tabOK_cons c26 (tabOK_cons c41 (tabOK_cons c42 (tabOK_cons c43 (tabOK_cons c44 (tabOK_cons c77 (tabOK_cons c78 (tabOK_cons c79 tabOK_nil)))))))))))))))

def clones : List (Nat × Nat × Nat) := []

theorem clones_ok : chkClones Try.prog clones = true := by kernel_rfl

theorem mixed : Try.prog.follows .mixedOrders = true := by kernel_rfl

theorem pr_ok : PrOK Try.prog (fun _ => clonePr clones) := fun _ _ _ => clonePr_ok mixed clones_ok

theorem pr_mono : PrMono (fun _ => clonePr clones) := const_mono

abbrev Pl (f : Nat) (vs : List FV) (v : FV) (bs : List Blk) : Prop := Plays (lookT tab) (fun _ => clonePr clones) f vs [] (v, bs)

end Go.Proofs.Ytinobfilomhhhaa
