/- The code of the functions that a statement reaches, as V-code, checked against the program. Printed by a program. -/
import Derived.Test.YtinobfilomhhhaaV3
import Derived.Test.YtinobfilomhhhaaChecked
import Derived.KernelRfl
set_option maxRecDepth 100000
namespace Go.Proofs.Ytinobfilomhhhaa
open Go GoV

/- scholia/suggest.Distance -/
def l8_0 : VCode := .seq (.region false [⟨some 29, .bin .lss (.t 28) (.t 27), [], none⟩])
  (.seq (.cond (.t 29) (.skip) (.exit 0))
  (.seq (.block 1 (.seq (.region false [⟨some 30, .mov none (.t 28), [], none⟩,
    ⟨some 9, .mov none (.t 30), [], none⟩])
  (.region false [⟨some 31, .mov none (.t 7), [], none⟩,
    ⟨some 32, .mov none (.t 9), [], none⟩,
    ⟨some 33, .mks false 1 [.t 32], [], none⟩,
    ⟨some 34, .blt (.append 1 8) [.t 31, .t 33], [], none⟩,
    ⟨some 7, .mov none (.t 34), [], none⟩])))
  (.region false [⟨some 35, .bin .add (.t 28) (.k (.one (.iv (.int .i64 1)))), [], none⟩,
    ⟨some 28, .mov none (.t 35), [], none⟩])))
def l8_1 : VCode := .seq (.seq (.region false [⟨some 36, .mov none (.t 10), [], none⟩,
    ⟨some 37, .mov none (.t 5), [], none⟩,
    ⟨some 38, .blt .len [.t 37], [], none⟩,
    ⟨some 39, .bin .leq (.t 36) (.t 38), [], none⟩])
  (.cond (.t 39) (.skip) (.exit 2)))
  (.seq (.block 3 (.region false [⟨some 42, .mov none (.t 5), [], none⟩,
    ⟨some 43, .mov none (.t 6), [], none⟩,
    ⟨some 44, .mov none (.t 10), [], none⟩,
    ⟨some 45, .mov none (.t 7), [], none⟩,
    ⟨some 46, .mov none (.t 8), [], none⟩,
    ⟨some 47, .call 26 [(false, .t 42), (false, .t 43), (false, .t 44), (false, .t 45), (false, .t 46)], [], none⟩,
    ⟨some 48, .mov none (.t 7), [], none⟩,
    ⟨some 7, .mov none (.t 47), [], none⟩,
    ⟨some 8, .mov none (.t 48), [], none⟩]))
  (.region false [⟨some 40, .mov none (.t 10), [], none⟩,
    ⟨some 41, .bin .add (.t 40) (.k (.one (.iv (.int .i64 1)))), [], none⟩,
    ⟨some 10, .mov none (.t 41), [], none⟩]))
def b8 : VCode := .seq (.region false [⟨some 4, .mov none (.k (.one (.iv (.int .i64 0)))), [], none⟩])
  (.seq (.region false [⟨some 11, .mov none (.t 0), [], none⟩,
    ⟨some 12, .call 25 [(false, .t 11)], [], none⟩,
    ⟨some 13, .mov none (.t 1), [], none⟩,
    ⟨some 14, .call 25 [(false, .t 13)], [], none⟩,
    ⟨some 5, .mov none (.t 12), [], none⟩,
    ⟨some 6, .mov none (.t 14), [], none⟩])
  (.seq (.region true [⟨some 15, .mov none (.t 5), [], none⟩,
    ⟨some 16, .mov none (.t 5), [], none⟩,
    ⟨some 17, .blt .len [.t 16], [1], none⟩,
    ⟨some 18, .blt .min [.t 17, .k (.one (.iv (.int .i64 64)))], [2], none⟩,
    ⟨some 19, .slS 1 (.t 15) none (some (.t 18)) none, [3, 0], none⟩,
    ⟨some 20, .mov none (.t 6), [], none⟩,
    ⟨some 21, .mov none (.t 6), [], none⟩,
    ⟨some 22, .blt .len [.t 21], [6], none⟩,
    ⟨some 23, .blt .min [.t 22, .k (.one (.iv (.int .i64 64)))], [7], none⟩,
    ⟨some 24, .slS 1 (.t 20) none (some (.t 23)) none, [8, 5], none⟩,
    ⟨some 5, .mov none (.t 19), [4], none⟩,
    ⟨some 6, .mov none (.t 24), [10, 9], none⟩])
  (.seq (.region false [⟨some 7, .mov (some 1) (.k (.one (.iv (.sl true 0 [])))), [], none⟩,
    ⟨some 8, .mov (some 1) (.k (.one (.iv (.sl true 0 [])))), [], none⟩])
  (.seq (.seq (.region false [⟨some 25, .mov none (.t 6), [], none⟩,
    ⟨some 26, .blt .len [.t 25], [], none⟩,
    ⟨some 27, .bin .add (.t 26) (.k (.one (.iv (.int .i64 1)))), [], none⟩,
    ⟨some 28, .mov none (.k (.one (.iv (.int .i64 0)))), [], none⟩])
  (.block 0 (.loop false [5, 6, 7, 8, 27, 28] l8_0)))
  (.seq (.seq (.region false [⟨some 10, .mov none (.k (.one (.iv (.int .i64 1)))), [], none⟩])
  (.block 2 (.loop false [5, 6, 7, 8, 10] l8_1)))
  (.seq (.region false [⟨some 49, .mov none (.t 7), [], none⟩,
    ⟨some 50, .mov none (.t 6), [], none⟩,
    ⟨some 51, .blt .len [.t 50], [], none⟩,
    ⟨some 52, .ixS 1 (.t 49) (.t 51), [], none⟩,
    ⟨some 53, .load false 1 (.t 52), [], none⟩,
    ⟨some 4, .mov none (.t 53), [], none⟩])
  (.ret)))))))
def v8 : VFn := ⟨2, 54, [.t 4], b8⟩

theorem c8 : chkFn Try.prog 8 v8 = true := by kernel_rfl

/- scholia/scholialaw32.awake -/
def b10 : VCode := .seq (.region false [⟨some 0, .mov none (.k (.one (.iv (.bool false)))), [], none⟩])
  (.seq (.region false [⟨some 1, .call 8 [(false, .k (.one (.iv (.str ⟨#[102, 111, 120]⟩)))), (false, .k (.one (.iv (.str ⟨#[102, 120, 111]⟩))))], [], none⟩,
    ⟨some 2, .bin .eql (.t 1) (.k (.one (.iv (.int .i64 1)))), [], none⟩,
    ⟨some 3, .mov none (.t 2), [], none⟩,
    ⟨some 4, .call 8 [(false, .k (.one (.iv (.str ⟨#[114, 101, 100]⟩)))), (false, .k (.one (.iv (.str ⟨#[98, 114, 101, 100]⟩))))], [], some (3, true)⟩,
    ⟨some 5, .bin .eql (.t 4) (.k (.one (.iv (.int .i64 1)))), [], some (3, true)⟩,
    ⟨some 6, .pick (.t 3) (.t 5) (.k (.one (.iv (.bool false)))), [], none⟩,
    ⟨some 0, .mov none (.t 6), [], none⟩])
  (.ret))
def v10 : VFn := ⟨0, 7, [.t 0], b10⟩

theorem c10 : chkFn Try.prog 10 v10 = true := by kernel_rfl

/- scholia/suggest.signs -/
def l25_0 : VCode := .seq (.seq (.region false [⟨some 7, .mov none (.t 4), [], none⟩,
    ⟨some 8, .mov none (.t 0), [], none⟩,
    ⟨some 9, .blt .lenS [.t 8], [], none⟩,
    ⟨some 10, .bin .lss (.t 7) (.t 9), [], none⟩])
  (.cond (.t 10) (.skip) (.exit 0)))
  (.block 1 (.seq (.region false [⟨some 12, .mov none (.t 0), [], none⟩,
    ⟨some 13, .mov none (.t 4), [], none⟩,
    ⟨some 14, .call 43 [(false, .t 12), (false, .t 13)], [], none⟩,
    ⟨some 11, .mov none (.t 14), [], none⟩,
    ⟨some 15, .ext 0 (.t 11), [], none⟩,
    ⟨some 16, .ext 1 (.t 11), [], none⟩,
    ⟨some 5, .mov none (.t 15), [], none⟩,
    ⟨some 6, .mov none (.t 16), [], none⟩])
  (.seq (.seq (.region false [⟨some 17, .mov none (.t 5), [], none⟩,
    ⟨some 18, .bin .lss (.t 17) (.k (.one (.iv (.int .i64 0)))), [], none⟩])
  (.cond (.t 18) (.region false [⟨some 19, .mov none (.t 0), [], none⟩,
    ⟨some 20, .mov none (.t 4), [], none⟩,
    ⟨some 21, .ixT (.t 19) (.t 20), [], none⟩,
    ⟨some 22, .conv .i64 (.t 21), [], none⟩,
    ⟨some 23, .bin .sub (.k (.one (.iv (.int .i64 (-1))))) (.t 22), [], none⟩,
    ⟨some 5, .mov none (.t 23), [], none⟩]) (.skip)))
  (.seq (.region false [⟨some 24, .mov none (.t 3), [], none⟩,
    ⟨some 25, .mov none (.t 5), [], none⟩,
    ⟨some 26, .mks false 1 [.t 25], [], none⟩,
    ⟨some 27, .blt (.append 1 8) [.t 24, .t 26], [], none⟩,
    ⟨some 3, .mov none (.t 27), [], none⟩])
  (.region false [⟨some 28, .mov none (.t 4), [], none⟩,
    ⟨some 29, .mov none (.t 6), [], none⟩,
    ⟨some 30, .bin .add (.t 28) (.t 29), [], none⟩,
    ⟨some 4, .mov none (.t 30), [], none⟩])))))
def b25 : VCode := .seq (.region false [⟨some 2, .mov none (.k (.one (.iv (.sl true 0 [])))), [], none⟩])
  (.seq (.region false [⟨some 3, .mov (some 1) (.k (.one (.iv (.sl true 0 [])))), [], none⟩])
  (.seq (.seq (.region false [⟨some 4, .mov none (.k (.one (.iv (.int .i64 0)))), [], none⟩])
  (.block 0 (.loop false [0, 3, 4] l25_0)))
  (.seq (.region false [⟨some 31, .mov none (.t 3), [], none⟩,
    ⟨some 2, .mov none (.t 31), [], none⟩])
  (.ret))))
def v25 : VFn := ⟨1, 32, [.t 2], b25⟩

theorem c25 : chkFn Try.prog 25 v25 = true := by kernel_rfl

/- scholia/suggest.row -/
def l26_0 : VCode := .seq (.seq (.region false [⟨some 16, .mov none (.t 12), [], none⟩,
    ⟨some 17, .mov none (.t 1), [], none⟩,
    ⟨some 18, .blt .len [.t 17], [], none⟩,
    ⟨some 19, .bin .leq (.t 16) (.t 18), [], none⟩])
  (.cond (.t 19) (.skip) (.exit 0)))
  (.seq (.block 1 (.seq (.region true [⟨some 22, .mov none (.t 3), [], none⟩,
    ⟨some 23, .mov none (.t 12), [], none⟩,
    ⟨some 24, .ixS 1 (.t 22) (.t 23), [1, 0], none⟩,
    ⟨some 25, .load false 1 (.t 24), [2], none⟩,
    ⟨some 26, .mov none (.t 11), [], none⟩,
    ⟨some 27, .mov none (.t 12), [], none⟩,
    ⟨some 28, .bin .sub (.t 27) (.k (.one (.iv (.int .i64 1)))), [5], none⟩,
    ⟨some 29, .ixS 1 (.t 26) (.t 28), [6, 4], none⟩,
    ⟨some 30, .load false 1 (.t 29), [7], none⟩,
    ⟨some 31, .blt .min [.t 25, .t 30], [8, 3], none⟩,
    ⟨some 32, .bin .add (.t 31) (.k (.one (.iv (.int .i64 1)))), [9], none⟩,
    ⟨some 13, .mov none (.t 32), [10], none⟩])
  (.seq (.seq (.region true [⟨some 33, .mov none (.t 0), [], none⟩,
    ⟨some 34, .mov none (.t 2), [], none⟩,
    ⟨some 35, .bin .sub (.t 34) (.k (.one (.iv (.int .i64 1)))), [1], none⟩,
    ⟨some 36, .ixS 1 (.t 33) (.t 35), [2, 0], none⟩,
    ⟨some 37, .load false 1 (.t 36), [3], none⟩,
    ⟨some 38, .mov none (.t 1), [], none⟩,
    ⟨some 39, .mov none (.t 12), [], none⟩,
    ⟨some 40, .bin .sub (.t 39) (.k (.one (.iv (.int .i64 1)))), [6], none⟩,
    ⟨some 41, .ixS 1 (.t 38) (.t 40), [7, 5], none⟩,
    ⟨some 42, .load false 1 (.t 41), [8], none⟩,
    ⟨some 43, .bin .eql (.t 37) (.t 42), [9, 4], none⟩])
  (.cond (.t 43) (.region false [⟨some 44, .mov none (.t 13), [], none⟩,
    ⟨some 45, .mov none (.t 3), [], none⟩,
    ⟨some 46, .mov none (.t 12), [], none⟩,
    ⟨some 47, .bin .sub (.t 46) (.k (.one (.iv (.int .i64 1)))), [], none⟩,
    ⟨some 48, .ixS 1 (.t 45) (.t 47), [], none⟩,
    ⟨some 49, .load false 1 (.t 48), [], none⟩,
    ⟨some 50, .blt .min [.t 44, .t 49], [], none⟩,
    ⟨some 13, .mov none (.t 50), [], none⟩]) (.region false [⟨some 51, .mov none (.t 13), [], none⟩,
    ⟨some 52, .mov none (.t 3), [], none⟩,
    ⟨some 53, .mov none (.t 12), [], none⟩,
    ⟨some 54, .bin .sub (.t 53) (.k (.one (.iv (.int .i64 1)))), [], none⟩,
    ⟨some 55, .ixS 1 (.t 52) (.t 54), [], none⟩,
    ⟨some 56, .load false 1 (.t 55), [], none⟩,
    ⟨some 57, .bin .add (.t 56) (.k (.one (.iv (.int .i64 1)))), [], none⟩,
    ⟨some 58, .blt .min [.t 51, .t 57], [], none⟩,
    ⟨some 13, .mov none (.t 58), [], none⟩])))
  (.seq (.seq (.region false [⟨some 59, .mov none (.t 0), [], none⟩,
    ⟨some 60, .mov none (.t 1), [], none⟩,
    ⟨some 61, .mov none (.t 2), [], none⟩,
    ⟨some 62, .mov none (.t 12), [], none⟩,
    ⟨some 63, .call 44 [(false, .t 59), (false, .t 60), (false, .t 61), (false, .t 62)], [], none⟩])
  (.cond (.t 63) (.region false [⟨some 64, .mov none (.t 13), [], none⟩,
    ⟨some 65, .mov none (.t 4), [], none⟩,
    ⟨some 66, .mov none (.t 12), [], none⟩,
    ⟨some 67, .bin .sub (.t 66) (.k (.one (.iv (.int .i64 2)))), [], none⟩,
    ⟨some 68, .ixS 1 (.t 65) (.t 67), [], none⟩,
    ⟨some 69, .load false 1 (.t 68), [], none⟩,
    ⟨some 70, .bin .add (.t 69) (.k (.one (.iv (.int .i64 1)))), [], none⟩,
    ⟨some 71, .blt .min [.t 64, .t 70], [], none⟩,
    ⟨some 13, .mov none (.t 71), [], none⟩]) (.skip)))
  (.region false [⟨some 72, .mov none (.t 11), [], none⟩,
    ⟨some 73, .mov none (.t 13), [], none⟩,
    ⟨some 74, .mks false 1 [.t 73], [], none⟩,
    ⟨some 75, .blt (.append 1 8) [.t 72, .t 74], [], none⟩,
    ⟨some 11, .mov none (.t 75), [], none⟩])))))
  (.region false [⟨some 20, .mov none (.t 12), [], none⟩,
    ⟨some 21, .bin .add (.t 20) (.k (.one (.iv (.int .i64 1)))), [], none⟩,
    ⟨some 12, .mov none (.t 21), [], none⟩]))
def b26 : VCode := .seq (.region false [⟨some 10, .mov none (.k (.one (.iv (.sl true 0 [])))), [], none⟩])
  (.seq (.region false [⟨some 14, .mov none (.t 2), [], none⟩,
    ⟨some 15, .mks true 1 [.t 14], [], none⟩,
    ⟨some 11, .mov none (.t 15), [], none⟩])
  (.seq (.seq (.region false [⟨some 12, .mov none (.k (.one (.iv (.int .i64 1)))), [], none⟩])
  (.block 0 (.loop false [0, 1, 2, 3, 4, 11, 12] l26_0)))
  (.seq (.region false [⟨some 76, .mov none (.t 11), [], none⟩,
    ⟨some 10, .mov none (.t 76), [], none⟩])
  (.ret))))
def v26 : VFn := ⟨5, 77, [.t 10], b26⟩

theorem c26 : chkFn Try.prog 26 v26 = true := by kernel_rfl

/- scholia/scholiaref03.value -/
def b41 : VCode := .seq (.region false [⟨some 2, .mov none (.k (.one (.iv (.int .i64 0)))), [], none⟩])
  (.seq (.region false [⟨some 3, .mov none (.t 0), [], none⟩,
    ⟨some 4, .conv .i64 (.t 3), [], none⟩,
    ⟨some 5, .bin .rem (.t 4) (.k (.one (.iv (.int .i64 64)))), [], none⟩,
    ⟨some 2, .mov none (.t 5), [], none⟩])
  (.ret))
def v41 : VFn := ⟨1, 6, [.t 2], b41⟩

theorem c41 : chkFn Try.prog 41 v41 = true := by kernel_rfl

/- scholia/utf.Next -/
def l43_0 : VCode := .seq (.region false [⟨some 47, .bin .lss (.t 46) (.t 45), [], none⟩])
  (.seq (.cond (.t 47) (.skip) (.exit 0))
  (.seq (.block 1 (.seq (.region false [⟨some 48, .ixS 1 (.t 44) (.t 46), [], none⟩,
    ⟨some 49, .load false 1 (.t 48), [], none⟩,
    ⟨some 9, .mov none (.t 49), [], none⟩])
  (.seq (.seq (.region false [⟨some 50, .mov none (.t 9), [], none⟩,
    ⟨some 51, .bin .and (.t 50) (.k (.one (.iv (.int .u8 192)))), [], none⟩,
    ⟨some 52, .bin .neq (.t 51) (.k (.one (.iv (.int .u8 128)))), [], none⟩])
  (.cond (.t 52) (.seq (.region false [⟨some 4, .mov none (.k (.one (.iv (.int .i64 (-1))))), [], none⟩,
    ⟨some 5, .mov none (.k (.one (.iv (.int .i64 1)))), [], none⟩])
  (.ret)) (.skip)))
  (.region false [⟨some 53, .mov none (.t 7), [], none⟩,
    ⟨some 54, .bin .shl (.t 53) (.k (.one (.iv (.int .u64 6)))), [], none⟩,
    ⟨some 55, .mov none (.t 9), [], none⟩,
    ⟨some 56, .bin .and (.t 55) (.k (.one (.iv (.int .u8 63)))), [], none⟩,
    ⟨some 57, .conv .i64 (.t 56), [], none⟩,
    ⟨some 58, .bin .or (.t 54) (.t 57), [], none⟩,
    ⟨some 7, .mov none (.t 58), [], none⟩]))))
  (.region false [⟨some 59, .bin .add (.t 46) (.k (.one (.iv (.int .i64 1)))), [], none⟩,
    ⟨some 46, .mov none (.t 59), [], none⟩])))
def b43 : VCode := .seq (.region false [⟨some 4, .mov none (.k (.one (.iv (.int .i64 0)))), [], none⟩,
    ⟨some 5, .mov none (.k (.one (.iv (.int .i64 0)))), [], none⟩])
  (.seq (.seq (.region false [⟨some 10, .mov none (.t 1), [], none⟩,
    ⟨some 11, .bin .lss (.t 10) (.k (.one (.iv (.int .i64 0)))), [], none⟩,
    ⟨some 12, .mov none (.t 11), [], none⟩,
    ⟨some 13, .mov none (.t 1), [], some (12, false)⟩,
    ⟨some 14, .mov none (.t 0), [], some (12, false)⟩,
    ⟨some 15, .blt .lenS [.t 14], [], some (12, false)⟩,
    ⟨some 16, .bin .geq (.t 13) (.t 15), [], some (12, false)⟩,
    ⟨some 17, .pick (.t 12) (.k (.one (.iv (.bool true)))) (.t 16), [], none⟩])
  (.cond (.t 17) (.seq (.region false [⟨some 4, .mov none (.k (.one (.iv (.int .i64 (-1))))), [], none⟩,
    ⟨some 5, .mov none (.k (.one (.iv (.int .i64 0)))), [], none⟩])
  (.ret)) (.skip)))
  (.seq (.region false [⟨some 18, .mov none (.t 0), [], none⟩,
    ⟨some 19, .mov none (.t 1), [], none⟩,
    ⟨some 20, .ixT (.t 18) (.t 19), [], none⟩,
    ⟨some 21, .call 78 [(false, .t 20)], [], none⟩,
    ⟨some 6, .new [.iv (.int .i64 0), .iv (.int .i64 0), .iv (.int .i64 0)], [], none⟩,
    ⟨none, .store 3 (.t 6) (.t 21), [], none⟩])
  (.seq (.seq (.region false [⟨some 22, .fad 0 (.t 6), [], none⟩,
    ⟨some 23, .load false 1 (.t 22), [], none⟩,
    ⟨some 24, .bin .eql (.t 23) (.k (.one (.iv (.int .i64 0)))), [], none⟩,
    ⟨some 25, .mov none (.t 24), [], none⟩,
    ⟨some 26, .fad 0 (.t 6), [], some (25, false)⟩,
    ⟨some 27, .load false 1 (.t 26), [], some (25, false)⟩,
    ⟨some 28, .mov none (.t 0), [], some (25, false)⟩,
    ⟨some 29, .blt .lenS [.t 28], [], some (25, false)⟩,
    ⟨some 30, .mov none (.t 1), [], some (25, false)⟩,
    ⟨some 31, .bin .sub (.t 29) (.t 30), [], some (25, false)⟩,
    ⟨some 32, .bin .gtr (.t 27) (.t 31), [], some (25, false)⟩,
    ⟨some 33, .pick (.t 25) (.k (.one (.iv (.bool true)))) (.t 32), [], none⟩])
  (.cond (.t 33) (.seq (.region false [⟨some 4, .mov none (.k (.one (.iv (.int .i64 (-1))))), [], none⟩,
    ⟨some 5, .mov none (.k (.one (.iv (.int .i64 1)))), [], none⟩])
  (.ret)) (.skip)))
  (.seq (.region false [⟨some 34, .fad 1 (.t 6), [], none⟩,
    ⟨some 35, .load false 1 (.t 34), [], none⟩,
    ⟨some 7, .mov none (.t 35), [], none⟩])
  (.seq (.seq (.region false [⟨some 36, .mov none (.t 0), [], none⟩,
    ⟨some 37, .mov none (.t 1), [], none⟩,
    ⟨some 38, .bin .add (.t 37) (.k (.one (.iv (.int .i64 1)))), [], none⟩,
    ⟨some 39, .mov none (.t 1), [], none⟩,
    ⟨some 40, .fad 0 (.t 6), [], none⟩,
    ⟨some 41, .load false 1 (.t 40), [], none⟩,
    ⟨some 42, .bin .add (.t 39) (.t 41), [], none⟩,
    ⟨some 43, .slT (.t 36) (some (.t 38)) (some (.t 42)), [], none⟩,
    ⟨some 44, .s2b (.t 43), [], none⟩,
    ⟨some 45, .blt .len [.t 44], [], none⟩,
    ⟨some 46, .mov none (.k (.one (.iv (.int .i64 0)))), [], none⟩])
  (.block 0 (.loop false [6, 7, 44, 45, 46] l43_0)))
  (.seq (.seq (.region false [⟨some 60, .mov none (.t 7), [], none⟩,
    ⟨some 61, .fad 2 (.t 6), [], none⟩,
    ⟨some 62, .load false 1 (.t 61), [], none⟩,
    ⟨some 63, .bin .lss (.t 60) (.t 62), [], none⟩,
    ⟨some 64, .mov none (.t 63), [], none⟩,
    ⟨some 65, .mov none (.t 7), [], some (64, false)⟩,
    ⟨some 66, .call 79 [(false, .t 65)], [], some (64, false)⟩,
    ⟨some 67, .un .not (.t 66), [], some (64, false)⟩,
    ⟨some 68, .pick (.t 64) (.k (.one (.iv (.bool true)))) (.t 67), [], none⟩])
  (.cond (.t 68) (.seq (.region false [⟨some 4, .mov none (.k (.one (.iv (.int .i64 (-1))))), [], none⟩,
    ⟨some 5, .mov none (.k (.one (.iv (.int .i64 1)))), [], none⟩])
  (.ret)) (.skip)))
  (.seq (.region true [⟨some 69, .mov none (.t 7), [], none⟩,
    ⟨some 70, .fad 0 (.t 6), [], none⟩,
    ⟨some 71, .load false 1 (.t 70), [1], none⟩,
    ⟨some 4, .mov none (.t 69), [0], none⟩,
    ⟨some 5, .mov none (.t 71), [3, 2], none⟩])
  (.ret))))))))
def v43 : VFn := ⟨2, 72, [.t 4, .t 5], b43⟩

theorem c43 : chkFn Try.prog 43 v43 = true := by kernel_rfl

/- scholia/suggest.swapped -/
def b44 : VCode := .seq (.region false [⟨some 8, .mov none (.k (.one (.iv (.bool false)))), [], none⟩])
  (.seq (.region true [⟨some 9, .mov none (.t 2), [], none⟩,
    ⟨some 10, .bin .gtr (.t 9) (.k (.one (.iv (.int .i64 1)))), [0], none⟩,
    ⟨some 11, .mov none (.t 10), [1], none⟩,
    ⟨some 12, .mov none (.t 3), [2], some (11, true)⟩,
    ⟨some 13, .bin .gtr (.t 12) (.k (.one (.iv (.int .i64 1)))), [3], some (11, true)⟩,
    ⟨some 14, .pick (.t 11) (.t 13) (.k (.one (.iv (.bool false)))), [4], none⟩,
    ⟨some 15, .mov none (.t 14), [5], none⟩,
    ⟨some 16, .mov none (.t 0), [6], some (15, true)⟩,
    ⟨some 17, .mov none (.t 2), [6], some (15, true)⟩,
    ⟨some 18, .bin .sub (.t 17) (.k (.one (.iv (.int .i64 1)))), [8], some (15, true)⟩,
    ⟨some 19, .ixS 1 (.t 16) (.t 18), [9, 7], some (15, true)⟩,
    ⟨some 20, .load false 1 (.t 19), [10], some (15, true)⟩,
    ⟨some 21, .mov none (.t 1), [6], some (15, true)⟩,
    ⟨some 22, .mov none (.t 3), [6], some (15, true)⟩,
    ⟨some 23, .bin .sub (.t 22) (.k (.one (.iv (.int .i64 2)))), [13], some (15, true)⟩,
    ⟨some 24, .ixS 1 (.t 21) (.t 23), [14, 12], some (15, true)⟩,
    ⟨some 25, .load false 1 (.t 24), [15], some (15, true)⟩,
    ⟨some 26, .bin .eql (.t 20) (.t 25), [16, 11], some (15, true)⟩,
    ⟨some 27, .pick (.t 15) (.t 26) (.k (.one (.iv (.bool false)))), [17], none⟩,
    ⟨some 28, .mov none (.t 27), [18], none⟩,
    ⟨some 29, .mov none (.t 0), [19], some (28, true)⟩,
    ⟨some 30, .mov none (.t 2), [19], some (28, true)⟩,
    ⟨some 31, .bin .sub (.t 30) (.k (.one (.iv (.int .i64 2)))), [21], some (28, true)⟩,
    ⟨some 32, .ixS 1 (.t 29) (.t 31), [22, 20], some (28, true)⟩,
    ⟨some 33, .load false 1 (.t 32), [23], some (28, true)⟩,
    ⟨some 34, .mov none (.t 1), [19], some (28, true)⟩,
    ⟨some 35, .mov none (.t 3), [19], some (28, true)⟩,
    ⟨some 36, .bin .sub (.t 35) (.k (.one (.iv (.int .i64 1)))), [26], some (28, true)⟩,
    ⟨some 37, .ixS 1 (.t 34) (.t 36), [27, 25], some (28, true)⟩,
    ⟨some 38, .load false 1 (.t 37), [28], some (28, true)⟩,
    ⟨some 39, .bin .eql (.t 33) (.t 38), [29, 24], some (28, true)⟩,
    ⟨some 40, .pick (.t 28) (.t 39) (.k (.one (.iv (.bool false)))), [30], none⟩,
    ⟨some 8, .mov none (.t 40), [31], none⟩])
  (.ret))
def v44 : VFn := ⟨4, 41, [.t 8], b44⟩

theorem c44 : chkFn Try.prog 44 v44 = true := by kernel_rfl

/- scholia/scholiaref03.Sign -/
def b77 : VCode := .seq (.region false [⟨some 2, .mov none (.k (.one (.iv (.bool false)))), [], none⟩])
  (.seq (.region false [⟨some 3, .mov none (.t 0), [], none⟩,
    ⟨some 4, .bin .geq (.t 3) (.k (.one (.iv (.int .i64 0)))), [], none⟩,
    ⟨some 5, .mov none (.t 4), [], none⟩,
    ⟨some 6, .mov none (.t 0), [], some (5, true)⟩,
    ⟨some 7, .bin .lss (.t 6) (.k (.one (.iv (.int .i64 55296)))), [], some (5, true)⟩,
    ⟨some 8, .pick (.t 5) (.t 7) (.k (.one (.iv (.bool false)))), [], none⟩,
    ⟨some 9, .mov none (.t 8), [], none⟩,
    ⟨some 10, .mov none (.t 0), [], some (9, false)⟩,
    ⟨some 11, .bin .gtr (.t 10) (.k (.one (.iv (.int .i64 57343)))), [], some (9, false)⟩,
    ⟨some 12, .mov none (.t 11), [], some (9, false)⟩,
    ⟨some 13, .mov none (.t 0), [], some (12, true)⟩,
    ⟨some 14, .bin .leq (.t 13) (.k (.one (.iv (.int .i64 1114111)))), [], some (12, true)⟩,
    ⟨some 15, .pick (.t 12) (.t 14) (.k (.one (.iv (.bool false)))), [], some (9, false)⟩,
    ⟨some 16, .pick (.t 9) (.k (.one (.iv (.bool true)))) (.t 15), [], none⟩,
    ⟨some 2, .mov none (.t 16), [], none⟩])
  (.ret))
def v77 : VFn := ⟨1, 17, [.t 2], b77⟩

theorem c77 : chkFn Try.prog 77 v77 = true := by kernel_rfl

/- scholia/utf.first -/
def b78 : VCode := .seq (.region false [⟨some 2, .new [.iv (.int .i64 0), .iv (.int .i64 0), .iv (.int .i64 0)], [], none⟩])
  (.seq (.block 0 (.seq (.region false [⟨some 4, .mov none (.t 0), [], none⟩,
    ⟨some 5, .bin .lss (.t 4) (.k (.one (.iv (.int .u8 128)))), [], none⟩,
    ⟨some 3, .mov none (.t 5), [], none⟩])
  (.cond (.t 3) (.seq (.region false [⟨some 6, .mov none (.t 0), [], none⟩,
    ⟨some 7, .conv .i64 (.t 6), [], none⟩,
    ⟨some 8, .build [.iv (.int .i64 0), .iv (.int .i64 0), .iv (.int .i64 0)] [(0, 1, .k (.one (.iv (.int .i64 1)))), (1, 1, .t 7), (2, 1, .k (.one (.iv (.int .i64 0))))], [], none⟩,
    ⟨none, .store 3 (.t 2) (.t 8), [], none⟩])
  (.ret)) (.seq (.region false [⟨some 10, .mov none (.t 0), [], none⟩,
    ⟨some 11, .bin .lss (.t 10) (.k (.one (.iv (.int .u8 192)))), [], none⟩,
    ⟨some 9, .mov none (.t 11), [], none⟩])
  (.cond (.t 9) (.seq (.region false [⟨some 12, .build [.iv (.int .i64 0), .iv (.int .i64 0), .iv (.int .i64 0)] [], [], none⟩,
    ⟨none, .store 3 (.t 2) (.t 12), [], none⟩])
  (.ret)) (.seq (.region false [⟨some 14, .mov none (.t 0), [], none⟩,
    ⟨some 15, .bin .lss (.t 14) (.k (.one (.iv (.int .u8 224)))), [], none⟩,
    ⟨some 13, .mov none (.t 15), [], none⟩])
  (.cond (.t 13) (.seq (.region false [⟨some 16, .mov none (.t 0), [], none⟩,
    ⟨some 17, .bin .and (.t 16) (.k (.one (.iv (.int .u8 31)))), [], none⟩,
    ⟨some 18, .conv .i64 (.t 17), [], none⟩,
    ⟨some 19, .build [.iv (.int .i64 0), .iv (.int .i64 0), .iv (.int .i64 0)] [(0, 1, .k (.one (.iv (.int .i64 2)))), (1, 1, .t 18), (2, 1, .k (.one (.iv (.int .i64 128))))], [], none⟩,
    ⟨none, .store 3 (.t 2) (.t 19), [], none⟩])
  (.ret)) (.seq (.region false [⟨some 21, .mov none (.t 0), [], none⟩,
    ⟨some 22, .bin .lss (.t 21) (.k (.one (.iv (.int .u8 240)))), [], none⟩,
    ⟨some 20, .mov none (.t 22), [], none⟩])
  (.cond (.t 20) (.seq (.region false [⟨some 23, .mov none (.t 0), [], none⟩,
    ⟨some 24, .bin .and (.t 23) (.k (.one (.iv (.int .u8 15)))), [], none⟩,
    ⟨some 25, .conv .i64 (.t 24), [], none⟩,
    ⟨some 26, .build [.iv (.int .i64 0), .iv (.int .i64 0), .iv (.int .i64 0)] [(0, 1, .k (.one (.iv (.int .i64 3)))), (1, 1, .t 25), (2, 1, .k (.one (.iv (.int .i64 2048))))], [], none⟩,
    ⟨none, .store 3 (.t 2) (.t 26), [], none⟩])
  (.ret)) (.seq (.region false [⟨some 28, .mov none (.t 0), [], none⟩,
    ⟨some 29, .bin .lss (.t 28) (.k (.one (.iv (.int .u8 248)))), [], none⟩,
    ⟨some 27, .mov none (.t 29), [], none⟩])
  (.cond (.t 27) (.seq (.region false [⟨some 30, .mov none (.t 0), [], none⟩,
    ⟨some 31, .bin .and (.t 30) (.k (.one (.iv (.int .u8 7)))), [], none⟩,
    ⟨some 32, .conv .i64 (.t 31), [], none⟩,
    ⟨some 33, .build [.iv (.int .i64 0), .iv (.int .i64 0), .iv (.int .i64 0)] [(0, 1, .k (.one (.iv (.int .i64 4)))), (1, 1, .t 32), (2, 1, .k (.one (.iv (.int .i64 65536))))], [], none⟩,
    ⟨none, .store 3 (.t 2) (.t 33), [], none⟩])
  (.ret)) (.skip))))))))))))
  (.seq (.region false [⟨some 34, .build [.iv (.int .i64 0), .iv (.int .i64 0), .iv (.int .i64 0)] [], [], none⟩,
    ⟨none, .store 3 (.t 2) (.t 34), [], none⟩])
  (.ret)))
def v78 : VFn := ⟨1, 35, [.c 2 true 3], b78⟩

theorem c78 : chkFn Try.prog 78 v78 = true := by kernel_rfl

/- scholia/utf.Sign -/
def b79 : VCode := .seq (.region false [⟨some 2, .mov none (.k (.one (.iv (.bool false)))), [], none⟩])
  (.seq (.region false [⟨some 3, .mov none (.t 0), [], none⟩,
    ⟨some 4, .bin .geq (.t 3) (.k (.one (.iv (.int .i64 0)))), [], none⟩,
    ⟨some 5, .mov none (.t 4), [], none⟩,
    ⟨some 6, .mov none (.t 0), [], some (5, true)⟩,
    ⟨some 7, .bin .leq (.t 6) (.k (.one (.iv (.int .i64 1114111)))), [], some (5, true)⟩,
    ⟨some 8, .pick (.t 5) (.t 7) (.k (.one (.iv (.bool false)))), [], none⟩,
    ⟨some 9, .mov none (.t 8), [], none⟩,
    ⟨some 10, .mov none (.t 0), [], some (9, true)⟩,
    ⟨some 11, .bin .lss (.t 10) (.k (.one (.iv (.int .i64 55296)))), [], some (9, true)⟩,
    ⟨some 12, .mov none (.t 11), [], some (9, true)⟩,
    ⟨some 13, .mov none (.t 0), [], some (12, false)⟩,
    ⟨some 14, .bin .gtr (.t 13) (.k (.one (.iv (.int .i64 57343)))), [], some (12, false)⟩,
    ⟨some 15, .pick (.t 12) (.k (.one (.iv (.bool true)))) (.t 14), [], some (9, true)⟩,
    ⟨some 16, .pick (.t 9) (.t 15) (.k (.one (.iv (.bool false)))), [], none⟩,
    ⟨some 2, .mov none (.t 16), [], none⟩])
  (.ret))
def v79 : VFn := ⟨1, 17, [.t 2], b79⟩

theorem c79 : chkFn Try.prog 79 v79 = true := by kernel_rfl

/- scholia/scholialaw32.SuggestNobody -/
def b4 : VCode := .seq (.region false [⟨some 6, .mov none (.k (.one (.iv (.bool false)))), [], none⟩])
  (.seq (.seq (.region false [⟨some 7, .mov none (.t 0), [], none⟩,
    ⟨some 8, .blt .lenS [.t 7], [], none⟩,
    ⟨some 9, .bin .gtr (.t 8) (.k (.one (.iv (.int .i64 200)))), [], none⟩])
  (.cond (.t 9) (.seq (.region false [⟨some 10, .call 10 [], [], none⟩,
    ⟨some 6, .mov none (.t 10), [], none⟩])
  (.ret)) (.skip)))
  (.seq (.region false [⟨some 11, .mov none (.t 0), [], none⟩,
    ⟨some 12, .mov none (.t 1), [], none⟩,
    ⟨some 13, .mov none (.t 2), [], none⟩,
    ⟨some 14, .call 11 [(false, .k (.one (.iv .nilp))), (false, .t 11), (false, .t 12), (false, .t 13)], [], none⟩,
    ⟨some 15, .blt .len [.t 14], [], none⟩,
    ⟨some 16, .mov none (.t 0), [], none⟩,
    ⟨some 17, .mov none (.t 2), [], none⟩,
    ⟨some 18, .call 12 [(false, .k (.one (.iv .nilp))), (false, .t 16), (false, .t 17)], [], none⟩,
    ⟨some 19, .blt .len [.t 18], [], none⟩,
    ⟨some 20, .bin .add (.t 15) (.t 19), [], none⟩,
    ⟨some 21, .build [.iv (.int .i64 0), .iv (.sl true 0 []), .iv (.sl true 0 [])] [], [], none⟩,
    ⟨some 22, .box (.t 21), [], none⟩,
    ⟨some 23, .mov none (.t 0), [], none⟩,
    ⟨some 24, .mov none (.t 1), [], none⟩,
    ⟨some 25, .mov none (.t 2), [], none⟩,
    ⟨some 26, .call 11 [(false, .t 22), (false, .t 23), (false, .t 24), (false, .t 25)], [], none⟩,
    ⟨some 27, .blt .len [.t 26], [], none⟩,
    ⟨some 28, .bin .add (.t 20) (.t 27), [], none⟩,
    ⟨some 29, .bin .eql (.t 28) (.k (.one (.iv (.int .i64 0)))), [], none⟩,
    ⟨some 30, .mov none (.t 29), [], none⟩,
    ⟨some 31, .call 10 [], [], some (30, true)⟩,
    ⟨some 32, .pick (.t 30) (.t 31) (.k (.one (.iv (.bool false)))), [], none⟩,
    ⟨some 6, .mov none (.t 32), [], none⟩])
  (.ret)))
def v4 : VFn := ⟨3, 33, [.t 6], b4⟩

theorem c4 : chkFn Try.prog 4 v4 = true := by kernel_rfl

/- scholia/suggest.Near -/
def l11_0 : VCode := .seq (.region false [⟨some 25, .bin .lss (.t 24) (.t 23), [], none⟩])
  (.seq (.cond (.t 25) (.skip) (.exit 0))
  (.seq (.block 1 (.seq (.region false [⟨some 26, .ixS 1 (.t 22) (.t 24), [], none⟩,
    ⟨some 27, .load false 1 (.t 26), [], none⟩,
    ⟨some 12, .mov none (.t 27), [], none⟩])
  (.seq (.seq (.region false [⟨some 28, .mov none (.t 12), [], none⟩,
    ⟨some 29, .call 25 [(false, .t 28)], [], none⟩,
    ⟨some 30, .blt .len [.t 29], [], none⟩,
    ⟨some 13, .mov none (.t 30), [], none⟩])
  (.seq (.region false [⟨some 31, .mov none (.t 10), [], none⟩,
    ⟨some 32, .mov none (.t 13), [], none⟩,
    ⟨some 33, .bin .sub (.t 31) (.t 32), [], none⟩,
    ⟨some 34, .mov none (.t 13), [], none⟩,
    ⟨some 35, .mov none (.t 10), [], none⟩,
    ⟨some 36, .bin .sub (.t 34) (.t 35), [], none⟩,
    ⟨some 37, .blt .max [.t 33, .t 36], [], none⟩,
    ⟨some 38, .mov none (.t 2), [], none⟩,
    ⟨some 39, .blt .min [.t 38, .k (.one (.iv (.int .i64 3)))], [], none⟩,
    ⟨some 40, .bin .gtr (.t 37) (.t 39), [], none⟩])
  (.cond (.t 40) (.exit 1) (.skip))))
  (.seq (.region false [⟨some 41, .mov none (.t 12), [], none⟩,
    ⟨some 42, .mov none (.t 1), [], none⟩,
    ⟨some 43, .mov none (.t 12), [], none⟩,
    ⟨some 44, .call 8 [(false, .t 42), (false, .t 43)], [], none⟩,
    ⟨some 45, .build [.iv (.str ⟨#[]⟩), .iv (.int .i64 0)] [(0, 1, .t 41), (1, 1, .t 44)], [], none⟩,
    ⟨some 14, .new [.iv (.str ⟨#[]⟩), .iv (.int .i64 0)], [], none⟩,
    ⟨none, .store 2 (.t 14) (.t 45), [], none⟩])
  (.seq (.region false [⟨some 46, .fad 1 (.t 14), [], none⟩,
    ⟨some 47, .load false 1 (.t 46), [], none⟩,
    ⟨some 48, .mov none (.t 2), [], none⟩,
    ⟨some 49, .blt .min [.t 48, .k (.one (.iv (.int .i64 3)))], [], none⟩,
    ⟨some 50, .bin .leq (.t 47) (.t 49), [], none⟩])
  (.cond (.t 50) (.region false [⟨some 51, .mov none (.t 9), [], none⟩,
    ⟨some 52, .load true 2 (.t 14), [], none⟩,
    ⟨some 53, .call 29 [(false, .t 51), (false, .t 52)], [], none⟩]) (.skip)))))))
  (.region false [⟨some 54, .bin .add (.t 24) (.k (.one (.iv (.int .i64 1)))), [], none⟩,
    ⟨some 24, .mov none (.t 54), [], none⟩])))
def b11 : VCode := .seq (.region false [⟨some 8, .mov none (.k (.one (.iv (.sl true 0 [])))), [], none⟩])
  (.seq (.region false [⟨some 15, .mov none (.t 3), [], none⟩,
    ⟨some 16, .blt .min [.t 15, .k (.one (.iv (.int .i64 20)))], [], none⟩,
    ⟨some 17, .call 27 [(false, .t 16), (false, .k (.one (.iv (.fn 28))))], [], none⟩,
    ⟨some 9, .mov none (.t 17), [], none⟩])
  (.seq (.region false [⟨some 18, .mov none (.t 1), [], none⟩,
    ⟨some 19, .call 25 [(false, .t 18)], [], none⟩,
    ⟨some 20, .blt .len [.t 19], [], none⟩,
    ⟨some 10, .mov none (.t 20), [], none⟩])
  (.seq (.seq (.region false [⟨some 21, .mov none (.t 0), [], none⟩,
    ⟨some 22, .call 22 [(false, .t 21)], [], none⟩,
    ⟨some 23, .blt .len [.t 22], [], none⟩,
    ⟨some 24, .mov none (.k (.one (.iv (.int .i64 0)))), [], none⟩])
  (.block 0 (.loop false [1, 2, 9, 10, 22, 23, 24] l11_0)))
  (.seq (.region false [⟨some 55, .mov none (.t 9), [], none⟩,
    ⟨some 56, .call 30 [(false, .t 55)], [], none⟩,
    ⟨some 8, .mov none (.t 56), [], none⟩])
  (.ret)))))
def v11 : VFn := ⟨4, 57, [.t 8], b11⟩

theorem c11 : chkFn Try.prog 11 v11 = true := by kernel_rfl

/- scholia/suggest.Complete -/
def l12_0 : VCode := .seq (.seq (.region false [⟨some 20, .mov none (.t 10), [], none⟩,
    ⟨some 21, .mov none (.t 9), [], none⟩,
    ⟨some 22, .bin .lss (.t 20) (.t 21), [], none⟩,
    ⟨some 23, .mov none (.t 22), [], none⟩,
    ⟨some 24, .mov none (.t 7), [], some (23, true)⟩,
    ⟨some 25, .blt .len [.t 24], [], some (23, true)⟩,
    ⟨some 26, .mov none (.t 2), [], some (23, true)⟩,
    ⟨some 27, .blt .min [.t 26, .k (.one (.iv (.int .i64 20)))], [], some (23, true)⟩,
    ⟨some 28, .bin .lss (.t 25) (.t 27), [], some (23, true)⟩,
    ⟨some 29, .pick (.t 23) (.t 28) (.k (.one (.iv (.bool false)))), [], none⟩])
  (.cond (.t 29) (.skip) (.exit 0)))
  (.seq (.block 1 (.seq (.region false [⟨some 33, .mov none (.t 0), [], none⟩,
    ⟨some 34, .mov none (.t 10), [], none⟩,
    ⟨some 35, .call 32 [(false, .t 33), (false, .t 34)], [], none⟩,
    ⟨some 32, .mov none (.t 35), [], none⟩,
    ⟨some 36, .ext 0 (.t 32), [], none⟩,
    ⟨some 37, .ext 1 (.t 32), [], none⟩,
    ⟨some 11, .mov none (.t 36), [], none⟩,
    ⟨some 12, .mov none (.t 37), [], none⟩])
  (.region false [⟨some 38, .mov none (.t 7), [], none⟩,
    ⟨some 39, .mov none (.t 11), [], none⟩,
    ⟨some 40, .mks false 1 [.t 39], [], none⟩,
    ⟨some 41, .blt (.append 1 16) [.t 38, .t 40], [], none⟩,
    ⟨some 7, .mov none (.t 41), [], none⟩])))
  (.region false [⟨some 30, .mov none (.t 10), [], none⟩,
    ⟨some 31, .bin .add (.t 30) (.k (.one (.iv (.int .i64 1)))), [], none⟩,
    ⟨some 10, .mov none (.t 31), [], none⟩]))
def b12 : VCode := .seq (.region false [⟨some 6, .mov none (.k (.one (.iv (.sl true 0 [])))), [], none⟩])
  (.seq (.region false [⟨some 7, .mov none (.k (.one (.iv (.sl true 0 [])))), [], none⟩])
  (.seq (.region false [⟨some 14, .mov none (.t 0), [], none⟩,
    ⟨some 15, .mov none (.t 1), [], none⟩,
    ⟨some 16, .call 31 [(false, .t 14), (false, .t 15)], [], none⟩,
    ⟨some 13, .mov none (.t 16), [], none⟩,
    ⟨some 17, .ext 0 (.t 13), [], none⟩,
    ⟨some 18, .ext 1 (.t 13), [], none⟩,
    ⟨some 8, .mov none (.t 17), [], none⟩,
    ⟨some 9, .mov none (.t 18), [], none⟩])
  (.seq (.seq (.region false [⟨some 19, .mov none (.t 8), [], none⟩,
    ⟨some 10, .mov none (.t 19), [], none⟩])
  (.block 0 (.loop false [0, 2, 7, 9, 10] l12_0)))
  (.seq (.region false [⟨some 42, .mov none (.t 7), [], none⟩,
    ⟨some 6, .mov none (.t 42), [], none⟩])
  (.ret)))))
def v12 : VFn := ⟨3, 43, [.t 6], b12⟩

theorem c12 : chkFn Try.prog 12 v12 = true := by kernel_rfl

/- (*scholia/dict.Dict).Words -/
def l22_0 : VCode := .seq (.region false [⟨some 15, .bin .lss (.t 14) (.t 13), [], none⟩])
  (.seq (.cond (.t 15) (.skip) (.exit 0))
  (.seq (.block 1 (.seq (.region false [⟨some 16, .mov none (.t 14), [], none⟩,
    ⟨some 4, .mov none (.t 16), [], none⟩])
  (.region false [⟨some 17, .mov none (.t 3), [], none⟩,
    ⟨some 18, .mov none (.t 0), [], none⟩,
    ⟨some 19, .mov none (.t 4), [], none⟩,
    ⟨some 20, .call 40 [(false, .t 18), (false, .t 19)], [], none⟩,
    ⟨some 21, .blt (.append 1 16) [.t 17, .t 20], [], none⟩,
    ⟨some 3, .mov none (.t 21), [], none⟩])))
  (.region false [⟨some 22, .bin .add (.t 14) (.k (.one (.iv (.int .i64 1)))), [], none⟩,
    ⟨some 14, .mov none (.t 22), [], none⟩])))
def b22 : VCode := .seq (.region false [⟨some 2, .mov none (.k (.one (.iv (.sl true 0 [])))), [], none⟩])
  (.seq (.region false [⟨some 3, .mov none (.k (.one (.iv (.sl true 0 [])))), [], none⟩])
  (.seq (.seq (.region false [⟨some 5, .mov none (.t 0), [], none⟩,
    ⟨some 6, .call 39 [(false, .t 5)], [], none⟩,
    ⟨some 7, .bin .eql (.t 6) (.k (.one (.iv (.int .i64 0)))), [], none⟩])
  (.cond (.t 7) (.seq (.region false [⟨some 8, .mov none (.t 3), [], none⟩,
    ⟨some 2, .mov none (.t 8), [], none⟩])
  (.ret)) (.skip)))
  (.seq (.seq (.region false [⟨some 9, .mov none (.t 0), [], none⟩,
    ⟨some 10, .nilc (.t 9), [], none⟩,
    ⟨some 11, .fad 1 (.t 10), [], none⟩,
    ⟨some 12, .load false 1 (.t 11), [], none⟩,
    ⟨some 13, .blt .len [.t 12], [], none⟩,
    ⟨some 14, .mov none (.k (.one (.iv (.int .i64 0)))), [], none⟩])
  (.block 0 (.loop false [0, 3, 13, 14] l22_0)))
  (.seq (.region false [⟨some 23, .mov none (.t 3), [], none⟩,
    ⟨some 2, .mov none (.t 23), [], none⟩])
  (.ret)))))
def v22 : VFn := ⟨1, 24, [.t 2], b22⟩

theorem c22 : chkFn Try.prog 22 v22 = true := by kernel_rfl

/- scholia/sorted.NewBest[scholia/api.Guess] -/
def b27 : VCode := .seq (.region false [⟨some 3, .box (.t 1), [], none⟩,
    ⟨some 4, .mov none (.k (.one (.iv .nilp))), [], none⟩])
  (.seq (.seq (.region false [⟨some 5, .load false 1 (.t 3), [], none⟩,
    ⟨some 6, .eqs .eql .func (.t 5) (.k (.one (.iv .niln))), [], none⟩])
  (.cond (.t 6) (.seq (.region false [⟨some 7, .build [.iv (.int .i64 0), .iv (.nilp)] [], [], none⟩,
    ⟨some 8, .box (.t 7), [], none⟩,
    ⟨some 4, .mov none (.t 8), [], none⟩])
  (.ret)) (.skip)))
  (.seq (.region false [⟨some 9, .mov none (.t 0), [], none⟩,
    ⟨some 10, .blt .max [.t 9, .k (.one (.iv (.int .i64 0)))], [], none⟩,
    ⟨some 11, .mkf 46 [.t 3], [], none⟩,
    ⟨some 12, .call 45 [(false, .t 11)], [], none⟩,
    ⟨some 13, .build [.iv (.int .i64 0), .iv (.nilp)] [(0, 1, .t 10), (1, 1, .t 12)], [], none⟩,
    ⟨some 14, .box (.t 13), [], none⟩,
    ⟨some 4, .mov none (.t 14), [], none⟩])
  (.ret)))
def v27 : VFn := ⟨2, 15, [.t 4], b27⟩

theorem c27 : chkFn Try.prog 27 v27 = true := by kernel_rfl

/- (*scholia/sorted.Best[scholia/api.Guess]).Take -/
def l30_0 : VCode := .seq (.seq (.region false [⟨some 9, .mov none (.t 0), [], none⟩,
    ⟨some 10, .nilc (.t 9), [], none⟩,
    ⟨some 11, .fad 1 (.t 10), [], none⟩,
    ⟨some 12, .load false 1 (.t 11), [], none⟩,
    ⟨some 13, .call 51 [(false, .t 12)], [], none⟩,
    ⟨some 14, .bin .gtr (.t 13) (.k (.one (.iv (.int .i64 0)))), [], none⟩])
  (.cond (.t 14) (.skip) (.exit 0)))
  (.block 1 (.seq (.region false [⟨some 16, .mov none (.t 0), [], none⟩,
    ⟨some 17, .nilc (.t 16), [], none⟩,
    ⟨some 18, .fad 1 (.t 17), [], none⟩,
    ⟨some 19, .load false 1 (.t 18), [], none⟩,
    ⟨some 20, .call 52 [(false, .t 19)], [], none⟩,
    ⟨some 15, .mov none (.t 20), [], none⟩,
    ⟨some 21, .ext 0 (.t 15), [], none⟩,
    ⟨some 22, .ext 1 (.t 15), [], none⟩,
    ⟨some 4, .new [.iv (.str ⟨#[]⟩), .iv (.int .i64 0)], [], none⟩,
    ⟨none, .store 2 (.t 4) (.t 21), [], none⟩,
    ⟨some 5, .mov none (.t 22), [], none⟩])
  (.region false [⟨some 23, .mov none (.t 3), [], none⟩,
    ⟨some 24, .load true 2 (.t 4), [], none⟩,
    ⟨some 25, .mks false 2 [.t 24], [], none⟩,
    ⟨some 26, .blt (.append 2 24) [.t 23, .t 25], [], none⟩,
    ⟨some 3, .mov none (.t 26), [], none⟩])))
def b30 : VCode := .seq (.region false [⟨some 2, .mov none (.k (.one (.iv (.sl true 0 [])))), [], none⟩])
  (.seq (.region false [⟨some 3, .mov none (.k (.one (.iv (.sl true 0 [])))), [], none⟩])
  (.seq (.seq (.region false [⟨some 6, .mov none (.t 0), [], none⟩,
    ⟨some 7, .eqs .eql .ptr (.t 6) (.k (.one (.iv .nilp))), [], none⟩])
  (.cond (.t 7) (.seq (.region false [⟨some 8, .mov none (.t 3), [], none⟩,
    ⟨some 2, .mov none (.t 8), [], none⟩])
  (.ret)) (.skip)))
  (.seq (.block 0 (.loop false [0, 3] l30_0))
  (.seq (.region false [⟨some 27, .mov none (.t 3), [], none⟩,
    ⟨some 28, .call 53 [(false, .t 27)], [], none⟩])
  (.seq (.region false [⟨some 29, .mov none (.t 3), [], none⟩,
    ⟨some 2, .mov none (.t 29), [], none⟩])
  (.ret))))))
def v30 : VFn := ⟨1, 30, [.t 2], b30⟩

theorem c30 : chkFn Try.prog 30 v30 = true := by kernel_rfl

/- (*scholia/dict.Dict).Range -/
def b31 : VCode := .seq (.region false [⟨some 2, .box (.t 0), [], none⟩,
    ⟨some 3, .box (.t 1), [], none⟩,
    ⟨some 4, .mov none (.k (.one (.iv (.int .i64 0)))), [], none⟩,
    ⟨some 5, .mov none (.k (.one (.iv (.int .i64 0)))), [], none⟩])
  (.seq (.region false [⟨some 10, .load false 1 (.t 2), [], none⟩,
    ⟨some 11, .load false 1 (.t 3), [], none⟩,
    ⟨some 12, .call 54 [(false, .t 10), (false, .t 11)], [], none⟩,
    ⟨some 9, .mov none (.t 12), [], none⟩,
    ⟨some 13, .ext 0 (.t 9), [], none⟩,
    ⟨some 14, .ext 1 (.t 9), [], none⟩,
    ⟨some 6, .new [.iv (.int .i64 0)], [], none⟩,
    ⟨none, .store 1 (.t 6) (.t 13), [], none⟩,
    ⟨some 7, .mov none (.t 14), [], none⟩])
  (.seq (.region true [⟨some 15, .load false 1 (.t 6), [], none⟩,
    ⟨some 16, .load false 1 (.t 2), [], none⟩,
    ⟨some 17, .call 39 [(false, .t 16)], [1], none⟩,
    ⟨some 18, .load false 1 (.t 6), [], none⟩,
    ⟨some 19, .bin .sub (.t 17) (.t 18), [3, 2], none⟩,
    ⟨some 20, .mov none (.k (.one .undef)), [], none⟩,
    ⟨some 21, .call 55 [(false, .t 19), (false, .t 20)], [5, 4], none⟩,
    ⟨some 22, .bin .add (.t 15) (.t 21), [6, 0], none⟩,
    ⟨some 8, .mov none (.t 22), [7], none⟩])
  (.seq (.region false [⟨some 23, .load false 1 (.t 6), [], none⟩,
    ⟨some 24, .mov none (.t 8), [], none⟩,
    ⟨some 4, .mov none (.t 23), [], none⟩,
    ⟨some 5, .mov none (.t 24), [], none⟩])
  (.ret))))
def v31 : VFn := ⟨2, 25, [.t 4, .t 5], b31⟩

theorem c31 : chkFn Try.prog 31 v31 = true := by kernel_rfl

/- (*scholia/dict.Dict).Len -/
def b39 : VCode := .seq (.region false [⟨some 2, .mov none (.k (.one (.iv (.int .i64 0)))), [], none⟩])
  (.seq (.seq (.region false [⟨some 3, .mov none (.t 0), [], none⟩,
    ⟨some 4, .eqs .eql .ptr (.t 3) (.k (.one (.iv .nilp))), [], none⟩])
  (.cond (.t 4) (.seq (.region false [⟨some 2, .mov none (.k (.one (.iv (.int .i64 0)))), [], none⟩])
  (.ret)) (.skip)))
  (.seq (.region false [⟨some 5, .mov none (.t 0), [], none⟩,
    ⟨some 6, .nilc (.t 5), [], none⟩,
    ⟨some 7, .fad 0 (.t 6), [], none⟩,
    ⟨some 8, .load false 1 (.t 7), [], none⟩,
    ⟨some 2, .mov none (.t 8), [], none⟩])
  (.ret)))
def v39 : VFn := ⟨1, 9, [.t 2], b39⟩

theorem c39 : chkFn Try.prog 39 v39 = true := by kernel_rfl

/- scholia/sorted.NewHeap[scholia/api.Guess] -/
def b45 : VCode := .seq (.region false [⟨some 2, .mov none (.k (.one (.iv .nilp))), [], none⟩])
  (.seq (.region false [⟨some 3, .mov none (.t 0), [], none⟩,
    ⟨some 4, .build [.iv (.sl true 0 []), .iv (.niln)] [(1, 1, .t 3)], [], none⟩,
    ⟨some 5, .box (.t 4), [], none⟩,
    ⟨some 2, .mov none (.t 5), [], none⟩])
  (.ret))
def v45 : VFn := ⟨1, 6, [.t 2], b45⟩

theorem c45 : chkFn Try.prog 45 v45 = true := by kernel_rfl

/- (*scholia/sorted.Heap[scholia/api.Guess]).Len -/
def b51 : VCode := .seq (.region false [⟨some 2, .mov none (.k (.one (.iv (.int .i64 0)))), [], none⟩])
  (.seq (.seq (.region false [⟨some 3, .mov none (.t 0), [], none⟩,
    ⟨some 4, .eqs .eql .ptr (.t 3) (.k (.one (.iv .nilp))), [], none⟩])
  (.cond (.t 4) (.seq (.region false [⟨some 2, .mov none (.k (.one (.iv (.int .i64 0)))), [], none⟩])
  (.ret)) (.skip)))
  (.seq (.region false [⟨some 5, .mov none (.t 0), [], none⟩,
    ⟨some 6, .nilc (.t 5), [], none⟩,
    ⟨some 7, .fad 0 (.t 6), [], none⟩,
    ⟨some 8, .load false 1 (.t 7), [], none⟩,
    ⟨some 9, .blt .len [.t 8], [], none⟩,
    ⟨some 2, .mov none (.t 9), [], none⟩])
  (.ret)))
def v51 : VFn := ⟨1, 10, [.t 2], b51⟩

theorem c51 : chkFn Try.prog 51 v51 = true := by kernel_rfl

/- slices.Reverse[[]scholia/api.Guess,scholia/api.Guess] -/
def l53_0 : VCode := .seq (.seq (.region false [⟨some 7, .mov none (.t 2), [], none⟩,
    ⟨some 8, .mov none (.t 3), [], none⟩,
    ⟨some 9, .bin .lss (.t 7) (.t 8), [], none⟩])
  (.cond (.t 9) (.skip) (.exit 0)))
  (.seq (.block 1 (.region true [⟨some 14, .mov none (.t 0), [], none⟩,
    ⟨some 15, .mov none (.t 2), [], none⟩,
    ⟨some 16, .mov none (.t 0), [], none⟩,
    ⟨some 17, .mov none (.t 3), [], none⟩,
    ⟨some 18, .mov none (.t 0), [], none⟩,
    ⟨some 19, .mov none (.t 3), [], none⟩,
    ⟨some 20, .ixS 2 (.t 18) (.t 19), [5, 4], none⟩,
    ⟨some 21, .load true 2 (.t 20), [6], none⟩,
    ⟨some 22, .mov none (.t 0), [], none⟩,
    ⟨some 23, .mov none (.t 2), [], none⟩,
    ⟨some 24, .ixS 2 (.t 22) (.t 23), [9, 8], none⟩,
    ⟨some 25, .load true 2 (.t 24), [10], none⟩,
    ⟨some 26, .ixS 2 (.t 14) (.t 15), [11, 7, 1, 0], none⟩,
    ⟨none, .store 2 (.t 26) (.t 21), [12], none⟩,
    ⟨some 27, .ixS 2 (.t 16) (.t 17), [13, 3, 2], none⟩,
    ⟨none, .store 2 (.t 27) (.t 25), [14], none⟩]))
  (.region false [⟨some 10, .mov none (.t 2), [], none⟩,
    ⟨some 11, .bin .add (.t 10) (.k (.one (.iv (.int .i64 1)))), [], none⟩,
    ⟨some 12, .mov none (.t 3), [], none⟩,
    ⟨some 13, .bin .sub (.t 12) (.k (.one (.iv (.int .i64 1)))), [], none⟩,
    ⟨some 2, .mov none (.t 11), [], none⟩,
    ⟨some 3, .mov none (.t 13), [], none⟩]))
def b53 : VCode := .seq (.region false [⟨some 4, .mov none (.t 0), [], none⟩,
    ⟨some 5, .blt .len [.t 4], [], none⟩,
    ⟨some 6, .bin .sub (.t 5) (.k (.one (.iv (.int .i64 1)))), [], none⟩,
    ⟨some 2, .mov none (.k (.one (.iv (.int .i64 0)))), [], none⟩,
    ⟨some 3, .mov none (.t 6), [], none⟩])
  (.block 0 (.loop false [0, 2, 3] l53_0))
def v53 : VFn := ⟨1, 28, [], b53⟩

theorem c53 : chkFn Try.prog 53 v53 = true := by kernel_rfl

/- (*scholia/dict.Dict).Seek -/
def b54 : VCode := .seq (.region false [⟨some 2, .box (.t 0), [], none⟩,
    ⟨some 3, .box (.t 1), [], none⟩,
    ⟨some 4, .mov none (.k (.one (.iv (.int .i64 0)))), [], none⟩,
    ⟨some 5, .mov none (.k (.one (.iv (.bool false)))), [], none⟩])
  (.seq (.seq (.region false [⟨some 9, .load false 1 (.t 2), [], none⟩,
    ⟨some 10, .call 39 [(false, .t 9)], [], none⟩,
    ⟨some 11, .bin .eql (.t 10) (.k (.one (.iv (.int .i64 0)))), [], none⟩])
  (.cond (.t 11) (.seq (.region false [⟨some 4, .mov none (.k (.one (.iv (.int .i64 0)))), [], none⟩,
    ⟨some 5, .mov none (.k (.one (.iv (.bool false)))), [], none⟩])
  (.ret)) (.skip)))
  (.seq (.region false [⟨some 12, .load false 1 (.t 2), [], none⟩,
    ⟨some 13, .nilc (.t 12), [], none⟩,
    ⟨some 14, .fad 1 (.t 13), [], none⟩,
    ⟨some 15, .load false 1 (.t 14), [], none⟩,
    ⟨some 16, .blt .len [.t 15], [], none⟩,
    ⟨some 17, .mkf 85 [.t 2, .t 3], [], none⟩,
    ⟨some 18, .call 55 [(false, .t 16), (false, .t 17)], [], none⟩,
    ⟨some 19, .bin .sub (.t 18) (.k (.one (.iv (.int .i64 1)))), [], none⟩,
    ⟨some 6, .mov none (.t 19), [], none⟩])
  (.seq (.seq (.region false [⟨some 20, .mov none (.t 6), [], none⟩,
    ⟨some 21, .bin .lss (.t 20) (.k (.one (.iv (.int .i64 0)))), [], none⟩])
  (.cond (.t 21) (.seq (.region false [⟨some 4, .mov none (.k (.one (.iv (.int .i64 0)))), [], none⟩,
    ⟨some 5, .mov none (.k (.one (.iv (.bool false)))), [], none⟩])
  (.ret)) (.skip)))
  (.seq (.region false [⟨some 22, .load false 1 (.t 2), [], none⟩,
    ⟨some 23, .mov none (.t 6), [], none⟩,
    ⟨some 24, .call 40 [(false, .t 22), (false, .t 23)], [], none⟩,
    ⟨some 7, .mov none (.t 24), [], none⟩])
  (.seq (.region false [⟨some 25, .mov none (.t 7), [], none⟩,
    ⟨some 26, .load false 1 (.t 3), [], none⟩,
    ⟨some 27, .call 86 [(false, .t 25), (false, .t 26)], [], none⟩,
    ⟨some 8, .mov none (.t 27), [], none⟩])
  (.seq (.region true [⟨some 28, .mov none (.t 6), [], none⟩,
    ⟨some 29, .bin .mul (.t 28) (.k (.one (.iv (.int .i64 4)))), [0], none⟩,
    ⟨some 30, .mov none (.t 8), [], none⟩,
    ⟨some 31, .bin .add (.t 29) (.t 30), [2, 1], none⟩,
    ⟨some 32, .mov none (.t 8), [], none⟩,
    ⟨some 33, .mov none (.t 7), [], none⟩,
    ⟨some 34, .blt .len [.t 33], [5], none⟩,
    ⟨some 35, .bin .lss (.t 32) (.t 34), [6, 4], none⟩,
    ⟨some 36, .mov none (.t 35), [7], none⟩,
    ⟨some 37, .mov none (.t 7), [8], some (36, true)⟩,
    ⟨some 38, .mov none (.t 8), [8], some (36, true)⟩,
    ⟨some 39, .ixS 1 (.t 37) (.t 38), [10, 9], some (36, true)⟩,
    ⟨some 40, .load false 1 (.t 39), [11], some (36, true)⟩,
    ⟨some 41, .load false 1 (.t 3), [8], some (36, true)⟩,
    ⟨some 42, .bin .eql (.t 40) (.t 41), [13, 12], some (36, true)⟩,
    ⟨some 43, .pick (.t 36) (.t 42) (.k (.one (.iv (.bool false)))), [14], none⟩,
    ⟨some 4, .mov none (.t 31), [8, 3], none⟩,
    ⟨some 5, .mov none (.t 43), [16, 15], none⟩])
  (.ret)))))))
def v54 : VFn := ⟨2, 44, [.t 4, .t 5], b54⟩

theorem c54 : chkFn Try.prog 54 v54 = true := by kernel_rfl

/- sort.Search -/
def l55_0 : VCode := .seq (.seq (.region false [⟨some 9, .mov none (.t 5), [], none⟩,
    ⟨some 10, .mov none (.t 6), [], none⟩,
    ⟨some 11, .bin .lss (.t 9) (.t 10), [], none⟩])
  (.cond (.t 11) (.skip) (.exit 0)))
  (.block 1 (.seq (.region false [⟨some 12, .mov none (.t 5), [], none⟩,
    ⟨some 13, .mov none (.t 6), [], none⟩,
    ⟨some 14, .bin .add (.t 12) (.t 13), [], none⟩,
    ⟨some 15, .conv .u64 (.t 14), [], none⟩,
    ⟨some 16, .bin .shr (.t 15) (.k (.one (.iv (.int .u64 1)))), [], none⟩,
    ⟨some 17, .conv .i64 (.t 16), [], none⟩,
    ⟨some 7, .mov none (.t 17), [], none⟩])
  (.seq (.region false [⟨some 18, .mov none (.t 1), [], none⟩,
    ⟨some 19, .mov none (.t 7), [], none⟩,
    ⟨some 20, .callv (.t 18) [(false, .t 19)], [], none⟩,
    ⟨some 21, .un .not (.t 20), [], none⟩])
  (.cond (.t 21) (.region false [⟨some 22, .mov none (.t 7), [], none⟩,
    ⟨some 23, .bin .add (.t 22) (.k (.one (.iv (.int .i64 1)))), [], none⟩,
    ⟨some 5, .mov none (.t 23), [], none⟩]) (.region false [⟨some 24, .mov none (.t 7), [], none⟩,
    ⟨some 6, .mov none (.t 24), [], none⟩])))))
def b55 : VCode := .seq (.region false [⟨some 4, .mov none (.k (.one (.iv (.int .i64 0)))), [], none⟩])
  (.seq (.region false [⟨some 8, .mov none (.t 0), [], none⟩,
    ⟨some 5, .mov none (.k (.one (.iv (.int .i64 0)))), [], none⟩,
    ⟨some 6, .mov none (.t 8), [], none⟩])
  (.seq (.block 0 (.loop false [1, 5, 6] l55_0))
  (.seq (.region false [⟨some 25, .mov none (.t 5), [], none⟩,
    ⟨some 4, .mov none (.t 25), [], none⟩])
  (.ret))))
def v55 : VFn := ⟨2, 26, [.t 4], b55⟩

theorem c55 : chkFn Try.prog 55 v55 = true := by kernel_rfl

def tab : List (Nat × VFn) := [(8, v8), (10, v10), (25, v25), (26, v26), (41, v41), (43, v43), (44, v44), (77, v77), (78, v78), (79, v79), (4, v4), (11, v11), (12, v12), (22, v22), (27, v27), (30, v30), (31, v31), (39, v39), (45, v45), (51, v51), (53, v53), (54, v54), (55, v55)]

theorem tab_ok : TabOK Try.prog (lookT tab) := tabOK_cons c8 (tabOK_cons c10 (tabOK_cons c25 (tabOK_cons c26 (tabOK_cons c41 (tabOK_cons c43 (tabOK_cons c44 (tabOK_cons c77 (tabOK_cons c78 (tabOK_cons c79 (tabOK_cons c4 (tabOK_cons c11 (tabOK_cons c12 (tabOK_cons c22 (tabOK_cons c27 (tabOK_cons c30 (tabOK_cons c31 (tabOK_cons c39 (tabOK_cons c45 (tabOK_cons c51 (tabOK_cons c53 (tabOK_cons c54 (tabOK_cons c55 tabOK_nil))))))))))))))))))))))

def clones : List (Nat × Nat × Nat) := []

theorem clones_ok : chkClones Try.prog clones = true := by kernel_rfl

theorem mixed : Try.prog.follows .mixedOrders = true := by kernel_rfl

theorem pr_ok : PrOK Try.prog (fun _ => clonePr clones) := fun _ _ _ => clonePr_ok mixed clones_ok

theorem pr_mono : PrMono (fun _ => clonePr clones) := const_mono

abbrev Pl (f : Nat) (vs : List FV) (v : FV) (bs : List Blk) : Prop := Plays (lookT tab) (fun _ => clonePr clones) f vs [] (v, bs)

end Go.Proofs.Ytinobfilomhhhaa
