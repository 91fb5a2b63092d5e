/- The code of the functions that a statement reaches, as V-code, checked against the program. Printed by a program. -/
import Derived.Test.YtomchclmnmhjaaaCGCode1
import Derived.Test.YtomchclmnmhjaaaV3
import Derived.Test.YtomchclmnmhjaaaChecked
import Derived.KernelRfl
set_option maxRecDepth 100000
namespace Go.Proofs.Ytomchclmnmhjaaa
open Go GoV

/- math/bits.Len32 -/
def b147 : VCode := .seq (.region false [⟨some 2, .mov none (.k (.one (.iv (.int .i64 0)))), [], none⟩])
  (.seq (.seq (.region false [⟨some 3, .mov none (.t 0), [], none⟩,
    ⟨some 4, .bin .geq (.t 3) (.k (.one (.iv (.int .u32 65536)))), [], none⟩])
  (.cond (.t 4) (.seq (.region false [⟨some 5, .mov none (.t 0), [], none⟩,
    ⟨some 6, .bin .shr (.t 5) (.k (.one (.iv (.int .u64 16)))), [], none⟩,
    ⟨some 0, .mov none (.t 6), [], none⟩])
  (.region false [⟨some 2, .mov none (.k (.one (.iv (.int .i64 16)))), [], none⟩])) (.skip)))
  (.seq (.seq (.region false [⟨some 7, .mov none (.t 0), [], none⟩,
    ⟨some 8, .bin .geq (.t 7) (.k (.one (.iv (.int .u32 256)))), [], none⟩])
  (.cond (.t 8) (.seq (.region false [⟨some 9, .mov none (.t 0), [], none⟩,
    ⟨some 10, .bin .shr (.t 9) (.k (.one (.iv (.int .u64 8)))), [], none⟩,
    ⟨some 0, .mov none (.t 10), [], none⟩])
  (.region false [⟨some 11, .mov none (.t 2), [], none⟩,
    ⟨some 12, .bin .add (.t 11) (.k (.one (.iv (.int .i64 8)))), [], none⟩,
    ⟨some 2, .mov none (.t 12), [], none⟩])) (.skip)))
  (.seq (.region false [⟨some 13, .mov none (.t 2), [], none⟩,
    ⟨some 14, .mov none (.t 0), [], none⟩,
    ⟨some 15, .conv .u8 (.t 14), [], none⟩,
    ⟨some 16, .ixT (.k (.one (.iv (.str ⟨#[0, 1, 2, 2, 3, 3, 3, 3, 4, 4, 4, 4, 4, 4, 4, 4, 5, 5, 5, 5, 5, 5, 5, 5, 5, 5, 5, 5, 5, 5, 5, 5, 6, 6, 6, 6, 6, 6, 6, 6, 6, 6, 6, 6, 6, 6, 6, 6, 6, 6, 6, 6, 6, 6, 6, 6, 6, 6, 6, 6, 6, 6, 6, 6, 7, 7, 7, 7, 7, 7, 7, 7, 7, 7, 7, 7, 7, 7, 7, 7, 7, 7, 7, 7, 7, 7, 7, 7, 7, 7, 7, 7, 7, 7, 7, 7, 7, 7, 7, 7, 7, 7, 7, 7, 7, 7, 7, 7, 7, 7, 7, 7, 7, 7, 7, 7, 7, 7, 7, 7, 7, 7, 7, 7, 7, 7, 7, 7, 8, 8, 8, 8, 8, 8, 8, 8, 8, 8, 8, 8, 8, 8, 8, 8, 8, 8, 8, 8, 8, 8, 8, 8, 8, 8, 8, 8, 8, 8, 8, 8, 8, 8, 8, 8, 8, 8, 8, 8, 8, 8, 8, 8, 8, 8, 8, 8, 8, 8, 8, 8, 8, 8, 8, 8, 8, 8, 8, 8, 8, 8, 8, 8, 8, 8, 8, 8, 8, 8, 8, 8, 8, 8, 8, 8, 8, 8, 8, 8, 8, 8, 8, 8, 8, 8, 8, 8, 8, 8, 8, 8, 8, 8, 8, 8, 8, 8, 8, 8, 8, 8, 8, 8, 8, 8, 8, 8, 8, 8, 8, 8, 8, 8, 8, 8, 8, 8, 8, 8, 8, 8, 8, 8, 8, 8, 8, 8]⟩)))) (.t 15), [], none⟩,
    ⟨some 17, .conv .i64 (.t 16), [], none⟩,
    ⟨some 18, .bin .add (.t 13) (.t 17), [], none⟩,
    ⟨some 2, .mov none (.t 18), [], none⟩])
  (.ret))))
def v147 : VFn := ⟨1, 19, [.t 2], b147⟩

theorem c147 : chkFn Try.prog 147 v147 = true := by kernel_rfl

/- math/bits.Len64 -/
def b148 : VCode := .seq (.region false [⟨some 2, .mov none (.k (.one (.iv (.int .i64 0)))), [], none⟩])
  (.seq (.seq (.region false [⟨some 3, .mov none (.t 0), [], none⟩,
    ⟨some 4, .bin .geq (.t 3) (.k (.one (.iv (.int .u64 4294967296)))), [], none⟩])
  (.cond (.t 4) (.seq (.region false [⟨some 5, .mov none (.t 0), [], none⟩,
    ⟨some 6, .bin .shr (.t 5) (.k (.one (.iv (.int .u64 32)))), [], none⟩,
    ⟨some 0, .mov none (.t 6), [], none⟩])
  (.region false [⟨some 2, .mov none (.k (.one (.iv (.int .i64 32)))), [], none⟩])) (.skip)))
  (.seq (.seq (.region false [⟨some 7, .mov none (.t 0), [], none⟩,
    ⟨some 8, .bin .geq (.t 7) (.k (.one (.iv (.int .u64 65536)))), [], none⟩])
  (.cond (.t 8) (.seq (.region false [⟨some 9, .mov none (.t 0), [], none⟩,
    ⟨some 10, .bin .shr (.t 9) (.k (.one (.iv (.int .u64 16)))), [], none⟩,
    ⟨some 0, .mov none (.t 10), [], none⟩])
  (.region false [⟨some 11, .mov none (.t 2), [], none⟩,
    ⟨some 12, .bin .add (.t 11) (.k (.one (.iv (.int .i64 16)))), [], none⟩,
    ⟨some 2, .mov none (.t 12), [], none⟩])) (.skip)))
  (.seq (.seq (.region false [⟨some 13, .mov none (.t 0), [], none⟩,
    ⟨some 14, .bin .geq (.t 13) (.k (.one (.iv (.int .u64 256)))), [], none⟩])
  (.cond (.t 14) (.seq (.region false [⟨some 15, .mov none (.t 0), [], none⟩,
    ⟨some 16, .bin .shr (.t 15) (.k (.one (.iv (.int .u64 8)))), [], none⟩,
    ⟨some 0, .mov none (.t 16), [], none⟩])
  (.region false [⟨some 17, .mov none (.t 2), [], none⟩,
    ⟨some 18, .bin .add (.t 17) (.k (.one (.iv (.int .i64 8)))), [], none⟩,
    ⟨some 2, .mov none (.t 18), [], none⟩])) (.skip)))
  (.seq (.region false [⟨some 19, .mov none (.t 2), [], none⟩,
    ⟨some 20, .mov none (.t 0), [], none⟩,
    ⟨some 21, .conv .u8 (.t 20), [], none⟩,
    ⟨some 22, .ixT (.k (.one (.iv (.str ⟨#[0, 1, 2, 2, 3, 3, 3, 3, 4, 4, 4, 4, 4, 4, 4, 4, 5, 5, 5, 5, 5, 5, 5, 5, 5, 5, 5, 5, 5, 5, 5, 5, 6, 6, 6, 6, 6, 6, 6, 6, 6, 6, 6, 6, 6, 6, 6, 6, 6, 6, 6, 6, 6, 6, 6, 6, 6, 6, 6, 6, 6, 6, 6, 6, 7, 7, 7, 7, 7, 7, 7, 7, 7, 7, 7, 7, 7, 7, 7, 7, 7, 7, 7, 7, 7, 7, 7, 7, 7, 7, 7, 7, 7, 7, 7, 7, 7, 7, 7, 7, 7, 7, 7, 7, 7, 7, 7, 7, 7, 7, 7, 7, 7, 7, 7, 7, 7, 7, 7, 7, 7, 7, 7, 7, 7, 7, 7, 7, 8, 8, 8, 8, 8, 8, 8, 8, 8, 8, 8, 8, 8, 8, 8, 8, 8, 8, 8, 8, 8, 8, 8, 8, 8, 8, 8, 8, 8, 8, 8, 8, 8, 8, 8, 8, 8, 8, 8, 8, 8, 8, 8, 8, 8, 8, 8, 8, 8, 8, 8, 8, 8, 8, 8, 8, 8, 8, 8, 8, 8, 8, 8, 8, 8, 8, 8, 8, 8, 8, 8, 8, 8, 8, 8, 8, 8, 8, 8, 8, 8, 8, 8, 8, 8, 8, 8, 8, 8, 8, 8, 8, 8, 8, 8, 8, 8, 8, 8, 8, 8, 8, 8, 8, 8, 8, 8, 8, 8, 8, 8, 8, 8, 8, 8, 8, 8, 8, 8, 8, 8, 8, 8, 8, 8, 8, 8, 8]⟩)))) (.t 21), [], none⟩,
    ⟨some 23, .conv .i64 (.t 22), [], none⟩,
    ⟨some 24, .bin .add (.t 19) (.t 23), [], none⟩,
    ⟨some 2, .mov none (.t 24), [], none⟩])
  (.ret)))))
def v148 : VFn := ⟨1, 25, [.t 2], b148⟩

theorem c148 : chkFn Try.prog 148 v148 = true := by kernel_rfl

/- math/bits.LeadingZeros8 -/
def b149 : VCode := .seq (.region false [⟨some 2, .mov none (.k (.one (.iv (.int .i64 0)))), [], none⟩])
  (.seq (.region false [⟨some 3, .mov none (.t 0), [], none⟩,
    ⟨some 4, .call 158 [(false, .t 3)], [], none⟩,
    ⟨some 5, .bin .sub (.k (.one (.iv (.int .i64 8)))) (.t 4), [], none⟩,
    ⟨some 2, .mov none (.t 5), [], none⟩])
  (.ret))
def v149 : VFn := ⟨1, 6, [.t 2], b149⟩

theorem c149 : chkFn Try.prog 149 v149 = true := by kernel_rfl

/- scholia/utf.Valid -/
def l150_0 : VCode := .seq (.seq (.region false [⟨some 6, .mov none (.t 3), [], none⟩,
    ⟨some 7, .mov none (.t 0), [], none⟩,
    ⟨some 8, .blt .lenS [.t 7], [], none⟩,
    ⟨some 9, .bin .lss (.t 6) (.t 8), [], none⟩])
  (.cond (.t 9) (.skip) (.exit 0)))
  (.block 1 (.seq (.region false [⟨some 11, .mov none (.t 0), [], none⟩,
    ⟨some 12, .mov none (.t 3), [], none⟩,
    ⟨some 13, .call 159 [(false, .t 11), (false, .t 12)], [], none⟩,
    ⟨some 10, .mov none (.t 13), [], none⟩,
    ⟨some 14, .ext 0 (.t 10), [], none⟩,
    ⟨some 15, .ext 1 (.t 10), [], none⟩,
    ⟨some 4, .mov none (.t 14), [], none⟩,
    ⟨some 5, .mov none (.t 15), [], none⟩])
  (.seq (.seq (.region false [⟨some 16, .mov none (.t 4), [], none⟩,
    ⟨some 17, .bin .lss (.t 16) (.k (.one (.iv (.int .i64 0)))), [], none⟩])
  (.cond (.t 17) (.seq (.region false [⟨some 2, .mov none (.k (.one (.iv (.bool false)))), [], none⟩])
  (.ret)) (.skip)))
  (.region false [⟨some 18, .mov none (.t 3), [], none⟩,
    ⟨some 19, .mov none (.t 5), [], none⟩,
    ⟨some 20, .bin .add (.t 18) (.t 19), [], none⟩,
    ⟨some 3, .mov none (.t 20), [], none⟩]))))
def b150 : VCode := .seq (.region false [⟨some 2, .mov none (.k (.one (.iv (.bool false)))), [], none⟩])
  (.seq (.seq (.region false [⟨some 3, .mov none (.k (.one (.iv (.int .i64 0)))), [], none⟩])
  (.block 0 (.loop false [0, 3] l150_0)))
  (.seq (.region false [⟨some 2, .mov none (.k (.one (.iv (.bool true)))), [], none⟩])
  (.ret)))
def v150 : VFn := ⟨1, 21, [.t 2], b150⟩

theorem c150 : chkFn Try.prog 150 v150 = true := by kernel_rfl

/- scholia/scholiaref12.Name -/
def l151_0 : VCode := .seq (.region false [⟨some 16, .bin .lss (.t 15) (.t 14), [], none⟩])
  (.seq (.cond (.t 16) (.skip) (.exit 0))
  (.seq (.block 1 (.seq (.region false [⟨some 17, .mov none (.t 15), [], none⟩,
    ⟨some 3, .mov none (.t 17), [], none⟩])
  (.seq (.region false [⟨some 18, .mov none (.t 0), [], none⟩,
    ⟨some 19, .mov none (.t 3), [], none⟩,
    ⟨some 20, .ixT (.t 18) (.t 19), [], none⟩,
    ⟨some 4, .mov none (.t 20), [], none⟩])
  (.seq (.region false [⟨some 21, .mov none (.t 4), [], none⟩,
    ⟨some 22, .bin .geq (.t 21) (.k (.one (.iv (.int .u8 97)))), [], none⟩,
    ⟨some 23, .mov none (.t 22), [], none⟩,
    ⟨some 24, .mov none (.t 4), [], some (23, true)⟩,
    ⟨some 25, .bin .leq (.t 24) (.k (.one (.iv (.int .u8 122)))), [], some (23, true)⟩,
    ⟨some 26, .pick (.t 23) (.t 25) (.k (.one (.iv (.bool false)))), [], none⟩,
    ⟨some 27, .mov none (.t 26), [], none⟩,
    ⟨some 28, .mov none (.t 4), [], some (27, false)⟩,
    ⟨some 29, .bin .geq (.t 28) (.k (.one (.iv (.int .u8 48)))), [], some (27, false)⟩,
    ⟨some 30, .mov none (.t 29), [], some (27, false)⟩,
    ⟨some 31, .mov none (.t 4), [], some (30, true)⟩,
    ⟨some 32, .bin .leq (.t 31) (.k (.one (.iv (.int .u8 57)))), [], some (30, true)⟩,
    ⟨some 33, .pick (.t 30) (.t 32) (.k (.one (.iv (.bool false)))), [], some (27, false)⟩,
    ⟨some 34, .pick (.t 27) (.k (.one (.iv (.bool true)))) (.t 33), [], none⟩,
    ⟨some 35, .mov none (.t 34), [], none⟩,
    ⟨some 36, .mov none (.t 4), [], some (35, false)⟩,
    ⟨some 37, .bin .eql (.t 36) (.k (.one (.iv (.int .u8 45)))), [], some (35, false)⟩,
    ⟨some 38, .pick (.t 35) (.k (.one (.iv (.bool true)))) (.t 37), [], none⟩,
    ⟨some 39, .un .not (.t 38), [], none⟩])
  (.cond (.t 39) (.seq (.region false [⟨some 2, .mov none (.k (.one (.iv (.bool false)))), [], none⟩])
  (.ret)) (.skip))))))
  (.region false [⟨some 40, .bin .add (.t 15) (.k (.one (.iv (.int .i64 1)))), [], none⟩,
    ⟨some 15, .mov none (.t 40), [], none⟩])))
def b151 : VCode := .seq (.region false [⟨some 2, .mov none (.k (.one (.iv (.bool false)))), [], none⟩])
  (.seq (.seq (.region false [⟨some 5, .mov none (.t 0), [], none⟩,
    ⟨some 6, .blt .lenS [.t 5], [], none⟩,
    ⟨some 7, .bin .lss (.t 6) (.k (.one (.iv (.int .i64 1)))), [], none⟩,
    ⟨some 8, .mov none (.t 7), [], none⟩,
    ⟨some 9, .mov none (.t 0), [], some (8, false)⟩,
    ⟨some 10, .blt .lenS [.t 9], [], some (8, false)⟩,
    ⟨some 11, .bin .gtr (.t 10) (.k (.one (.iv (.int .i64 12)))), [], some (8, false)⟩,
    ⟨some 12, .pick (.t 8) (.k (.one (.iv (.bool true)))) (.t 11), [], none⟩])
  (.cond (.t 12) (.seq (.region false [⟨some 2, .mov none (.k (.one (.iv (.bool false)))), [], none⟩])
  (.ret)) (.skip)))
  (.seq (.seq (.region false [⟨some 13, .mov none (.t 0), [], none⟩,
    ⟨some 14, .blt .lenS [.t 13], [], none⟩,
    ⟨some 15, .mov none (.k (.one (.iv (.int .i64 0)))), [], none⟩])
  (.block 0 (.loop false [0, 14, 15] l151_0)))
  (.seq (.region false [⟨some 2, .mov none (.k (.one (.iv (.bool true)))), [], none⟩])
  (.ret))))
def v151 : VFn := ⟨1, 41, [.t 2], b151⟩

theorem c151 : chkFn Try.prog 151 v151 = true := by kernel_rfl

/- scholia/scholiaref12.Text -/
def b152 : VCode := .seq (.region false [⟨some 4, .mov none (.k (.one (.iv (.int .i64 0)))), [], none⟩])
  (.seq (.seq (.region false [⟨some 5, .mov none (.t 0), [], none⟩,
    ⟨some 6, .bin .lss (.t 5) (.k (.one (.iv (.int .i64 0)))), [], none⟩,
    ⟨some 7, .mov none (.t 6), [], none⟩,
    ⟨some 8, .mov none (.t 0), [], some (7, false)⟩,
    ⟨some 9, .bin .gtr (.t 8) (.k (.one (.iv (.int .i64 4)))), [], some (7, false)⟩,
    ⟨some 10, .pick (.t 7) (.k (.one (.iv (.bool true)))) (.t 9), [], none⟩,
    ⟨some 11, .mov none (.t 10), [], none⟩,
    ⟨some 12, .mov none (.t 0), [], some (11, false)⟩,
    ⟨some 13, .bin .eql (.t 12) (.k (.one (.iv (.int .i64 0)))), [], some (11, false)⟩,
    ⟨some 14, .mov none (.t 13), [], some (11, false)⟩,
    ⟨some 15, .mov none (.t 1), [], some (14, true)⟩,
    ⟨some 16, .blt .lenS [.t 15], [], some (14, true)⟩,
    ⟨some 17, .bin .gtr (.t 16) (.k (.one (.iv (.int .i64 0)))), [], some (14, true)⟩,
    ⟨some 18, .pick (.t 14) (.t 17) (.k (.one (.iv (.bool false)))), [], some (11, false)⟩,
    ⟨some 19, .pick (.t 11) (.k (.one (.iv (.bool true)))) (.t 18), [], none⟩])
  (.cond (.t 19) (.seq (.region false [⟨some 4, .mov none (.k (.one (.iv (.int .i64 1)))), [], none⟩])
  (.ret)) (.skip)))
  (.seq (.seq (.region false [⟨some 20, .mov none (.t 1), [], none⟩,
    ⟨some 21, .blt .lenS [.t 20], [], none⟩,
    ⟨some 22, .bin .gtr (.t 21) (.k (.one (.iv (.int .i64 160)))), [], none⟩])
  (.cond (.t 22) (.seq (.region false [⟨some 4, .mov none (.k (.one (.iv (.int .i64 5)))), [], none⟩])
  (.ret)) (.skip)))
  (.seq (.seq (.region false [⟨some 23, .mov none (.t 1), [], none⟩,
    ⟨some 24, .call 160 [(false, .t 23)], [], none⟩,
    ⟨some 25, .un .not (.t 24), [], none⟩])
  (.cond (.t 25) (.seq (.region false [⟨some 4, .mov none (.k (.one (.iv (.int .i64 7)))), [], none⟩])
  (.ret)) (.skip)))
  (.seq (.region false [⟨some 4, .mov none (.k (.one (.iv (.int .i64 0)))), [], none⟩])
  (.ret)))))
def v152 : VFn := ⟨2, 26, [.t 4], b152⟩

theorem c152 : chkFn Try.prog 152 v152 = true := by kernel_rfl

/- slices.siftDownCmpFunc[scholia/api.Dot] -/
def l153_0 : VCode := .block 1 (.seq (.region false [⟨some 13, .mov none (.t 10), [], none⟩,
    ⟨some 14, .bin .mul (.k (.one (.iv (.int .i64 2)))) (.t 13), [], none⟩,
    ⟨some 15, .bin .add (.t 14) (.k (.one (.iv (.int .i64 1)))), [], none⟩,
    ⟨some 11, .mov none (.t 15), [], none⟩])
  (.seq (.seq (.region false [⟨some 16, .mov none (.t 11), [], none⟩,
    ⟨some 17, .mov none (.t 2), [], none⟩,
    ⟨some 18, .bin .geq (.t 16) (.t 17), [], none⟩])
  (.cond (.t 18) (.exit 0) (.skip)))
  (.seq (.seq (.region true [⟨some 19, .mov none (.t 11), [], none⟩,
    ⟨some 20, .bin .add (.t 19) (.k (.one (.iv (.int .i64 1)))), [0], none⟩,
    ⟨some 21, .mov none (.t 2), [], none⟩,
    ⟨some 22, .bin .lss (.t 20) (.t 21), [2, 1], none⟩,
    ⟨some 23, .mov none (.t 22), [3], none⟩,
    ⟨some 24, .mov none (.t 4), [4], some (23, true)⟩,
    ⟨some 25, .mov none (.t 0), [4], some (23, true)⟩,
    ⟨some 26, .mov none (.t 3), [4], some (23, true)⟩,
    ⟨some 27, .mov none (.t 11), [4], some (23, true)⟩,
    ⟨some 28, .bin .add (.t 26) (.t 27), [8, 7], some (23, true)⟩,
    ⟨some 29, .ixS 2 (.t 25) (.t 28), [9, 6], some (23, true)⟩,
    ⟨some 30, .load true 2 (.t 29), [10], some (23, true)⟩,
    ⟨some 31, .mov none (.t 0), [4], some (23, true)⟩,
    ⟨some 32, .mov none (.t 3), [4], some (23, true)⟩,
    ⟨some 33, .mov none (.t 11), [4], some (23, true)⟩,
    ⟨some 34, .bin .add (.t 32) (.t 33), [14, 13], some (23, true)⟩,
    ⟨some 35, .bin .add (.t 34) (.k (.one (.iv (.int .i64 1)))), [15], some (23, true)⟩,
    ⟨some 36, .ixS 2 (.t 31) (.t 35), [16, 12], some (23, true)⟩,
    ⟨some 37, .load true 2 (.t 36), [17], some (23, true)⟩,
    ⟨some 38, .callv (.t 24) [(false, .t 30), (false, .t 37)], [18, 11, 5], some (23, true)⟩,
    ⟨some 39, .bin .lss (.t 38) (.k (.one (.iv (.int .i64 0)))), [19], some (23, true)⟩,
    ⟨some 40, .pick (.t 23) (.t 39) (.k (.one (.iv (.bool false)))), [20], none⟩])
  (.cond (.t 40) (.region false [⟨some 41, .mov none (.t 11), [], none⟩,
    ⟨some 42, .bin .add (.t 41) (.k (.one (.iv (.int .i64 1)))), [], none⟩,
    ⟨some 11, .mov none (.t 42), [], none⟩]) (.skip)))
  (.seq (.seq (.region true [⟨some 43, .mov none (.t 4), [], none⟩,
    ⟨some 44, .mov none (.t 0), [], none⟩,
    ⟨some 45, .mov none (.t 3), [], none⟩,
    ⟨some 46, .mov none (.t 10), [], none⟩,
    ⟨some 47, .bin .add (.t 45) (.t 46), [3, 2], none⟩,
    ⟨some 48, .ixS 2 (.t 44) (.t 47), [4, 1], none⟩,
    ⟨some 49, .load true 2 (.t 48), [5], none⟩,
    ⟨some 50, .mov none (.t 0), [], none⟩,
    ⟨some 51, .mov none (.t 3), [], none⟩,
    ⟨some 52, .mov none (.t 11), [], none⟩,
    ⟨some 53, .bin .add (.t 51) (.t 52), [9, 8], none⟩,
    ⟨some 54, .ixS 2 (.t 50) (.t 53), [10, 7], none⟩,
    ⟨some 55, .load true 2 (.t 54), [11], none⟩,
    ⟨some 56, .callv (.t 43) [(false, .t 49), (false, .t 55)], [12, 6, 0], none⟩,
    ⟨some 57, .bin .lss (.t 56) (.k (.one (.iv (.int .i64 0)))), [13], none⟩,
    ⟨some 58, .un .not (.t 57), [14], none⟩])
  (.cond (.t 58) (.ret) (.skip)))
  (.seq (.region true [⟨some 59, .mov none (.t 0), [], none⟩,
    ⟨some 60, .mov none (.t 3), [], none⟩,
    ⟨some 61, .mov none (.t 10), [], none⟩,
    ⟨some 62, .bin .add (.t 60) (.t 61), [2, 1], none⟩,
    ⟨some 63, .mov none (.t 0), [], none⟩,
    ⟨some 64, .mov none (.t 3), [], none⟩,
    ⟨some 65, .mov none (.t 11), [], none⟩,
    ⟨some 66, .bin .add (.t 64) (.t 65), [6, 5], none⟩,
    ⟨some 67, .mov none (.t 0), [], none⟩,
    ⟨some 68, .mov none (.t 3), [], none⟩,
    ⟨some 69, .mov none (.t 11), [], none⟩,
    ⟨some 70, .bin .add (.t 68) (.t 69), [10, 9], none⟩,
    ⟨some 71, .ixS 2 (.t 67) (.t 70), [11, 8], none⟩,
    ⟨some 72, .load true 2 (.t 71), [12], none⟩,
    ⟨some 73, .mov none (.t 0), [], none⟩,
    ⟨some 74, .mov none (.t 3), [], none⟩,
    ⟨some 75, .mov none (.t 10), [], none⟩,
    ⟨some 76, .bin .add (.t 74) (.t 75), [16, 15], none⟩,
    ⟨some 77, .ixS 2 (.t 73) (.t 76), [17, 14], none⟩,
    ⟨some 78, .load true 2 (.t 77), [18], none⟩,
    ⟨some 79, .ixS 2 (.t 59) (.t 62), [19, 13, 3, 0], none⟩,
    ⟨none, .store 2 (.t 79) (.t 72), [20], none⟩,
    ⟨some 80, .ixS 2 (.t 63) (.t 66), [21, 7, 4], none⟩,
    ⟨none, .store 2 (.t 80) (.t 78), [22], none⟩])
  (.region false [⟨some 81, .mov none (.t 11), [], none⟩,
    ⟨some 10, .mov none (.t 81), [], none⟩]))))))
def b153 : VCode := .seq (.region false [⟨some 12, .mov none (.t 1), [], none⟩,
    ⟨some 10, .mov none (.t 12), [], none⟩])
  (.block 0 (.loop false [0, 2, 3, 4, 10] l153_0))
def v153 : VFn := ⟨5, 82, [], b153⟩

theorem c153 : chkFn Try.prog 153 v153 = true := by kernel_rfl

/- slices.nextPowerOfTwo -/
def b154 : VCode := .seq (.region false [⟨some 2, .mov none (.k (.one (.iv (.int .u64 0)))), [], none⟩])
  (.seq (.region false [⟨some 3, .mov none (.t 0), [], none⟩,
    ⟨some 4, .conv .u64 (.t 3), [], none⟩,
    ⟨some 5, .call 118 [(false, .t 4)], [], none⟩,
    ⟨some 6, .bin .shl (.k (.one (.iv (.int .u64 1)))) (.t 5), [], none⟩,
    ⟨some 2, .mov none (.t 6), [], none⟩])
  (.ret))
def v154 : VFn := ⟨1, 7, [.t 2], b154⟩

theorem c154 : chkFn Try.prog 154 v154 = true := by kernel_rfl

/- (*slices.xorshift).Next -/
def b155 : VCode := .seq (.region false [⟨some 2, .mov none (.k (.one (.iv (.int .u64 0)))), [], none⟩])
  (.seq (.region true [⟨some 3, .mov none (.t 0), [], none⟩,
    ⟨some 4, .nilc (.t 3), [0], none⟩,
    ⟨some 5, .load false 1 (.t 4), [1], none⟩,
    ⟨some 6, .mov none (.t 0), [], none⟩,
    ⟨some 7, .nilc (.t 6), [3], none⟩,
    ⟨some 8, .load false 1 (.t 7), [4], none⟩,
    ⟨some 9, .bin .shl (.t 8) (.k (.one (.iv (.int .u64 13)))), [5], none⟩,
    ⟨some 10, .bin .xor (.t 5) (.t 9), [6, 2], none⟩,
    ⟨some 11, .nilc (.t 3), [7], none⟩,
    ⟨none, .store 1 (.t 11) (.t 10), [8], none⟩])
  (.seq (.region true [⟨some 12, .mov none (.t 0), [], none⟩,
    ⟨some 13, .nilc (.t 12), [0], none⟩,
    ⟨some 14, .load false 1 (.t 13), [1], none⟩,
    ⟨some 15, .mov none (.t 0), [], none⟩,
    ⟨some 16, .nilc (.t 15), [3], none⟩,
    ⟨some 17, .load false 1 (.t 16), [4], none⟩,
    ⟨some 18, .bin .shr (.t 17) (.k (.one (.iv (.int .u64 7)))), [5], none⟩,
    ⟨some 19, .bin .xor (.t 14) (.t 18), [6, 2], none⟩,
    ⟨some 20, .nilc (.t 12), [7], none⟩,
    ⟨none, .store 1 (.t 20) (.t 19), [8], none⟩])
  (.seq (.region true [⟨some 21, .mov none (.t 0), [], none⟩,
    ⟨some 22, .nilc (.t 21), [0], none⟩,
    ⟨some 23, .load false 1 (.t 22), [1], none⟩,
    ⟨some 24, .mov none (.t 0), [], none⟩,
    ⟨some 25, .nilc (.t 24), [3], none⟩,
    ⟨some 26, .load false 1 (.t 25), [4], none⟩,
    ⟨some 27, .bin .shl (.t 26) (.k (.one (.iv (.int .u64 17)))), [5], none⟩,
    ⟨some 28, .bin .xor (.t 23) (.t 27), [6, 2], none⟩,
    ⟨some 29, .nilc (.t 21), [7], none⟩,
    ⟨none, .store 1 (.t 29) (.t 28), [8], none⟩])
  (.seq (.region false [⟨some 30, .mov none (.t 0), [], none⟩,
    ⟨some 31, .nilc (.t 30), [], none⟩,
    ⟨some 32, .load false 1 (.t 31), [], none⟩,
    ⟨some 2, .mov none (.t 32), [], none⟩])
  (.ret)))))
def v155 : VFn := ⟨1, 33, [.t 2], b155⟩

theorem c155 : chkFn Try.prog 155 v155 = true := by kernel_rfl

/- slices.medianAdjacentCmpFunc[scholia/api.Dot] -/
def b156 : VCode := .seq (.region false [⟨some 8, .mov none (.k (.one (.iv (.int .i64 0)))), [], none⟩])
  (.seq (.region false [⟨some 9, .mov none (.t 0), [], none⟩,
    ⟨some 10, .mov none (.t 1), [], none⟩,
    ⟨some 11, .bin .sub (.t 10) (.k (.one (.iv (.int .i64 1)))), [], none⟩,
    ⟨some 12, .mov none (.t 1), [], none⟩,
    ⟨some 13, .mov none (.t 1), [], none⟩,
    ⟨some 14, .bin .add (.t 13) (.k (.one (.iv (.int .i64 1)))), [], none⟩,
    ⟨some 15, .mov none (.t 2), [], none⟩,
    ⟨some 16, .mov none (.t 3), [], none⟩,
    ⟨some 17, .call 157 [(true, .t 9), (false, .t 11), (false, .t 12), (false, .t 14), (false, .t 15), (false, .t 16)], [], none⟩,
    ⟨some 8, .mov none (.t 17), [], none⟩])
  (.ret))
def v156 : VFn := ⟨4, 18, [.t 8], b156⟩

theorem c156 : chkFn Try.prog 156 v156 = true := by kernel_rfl

/- slices.medianCmpFunc[scholia/api.Dot] -/
def b157 : VCode := .seq (.region false [⟨some 12, .mov none (.k (.one (.iv (.int .i64 0)))), [], none⟩])
  (.seq (.region false [⟨some 14, .mov none (.t 0), [], none⟩,
    ⟨some 15, .mov none (.t 1), [], none⟩,
    ⟨some 16, .mov none (.t 2), [], none⟩,
    ⟨some 17, .mov none (.t 4), [], none⟩,
    ⟨some 18, .mov none (.t 5), [], none⟩,
    ⟨some 19, .call 161 [(true, .t 14), (false, .t 15), (false, .t 16), (false, .t 17), (false, .t 18)], [], none⟩,
    ⟨some 13, .mov none (.t 19), [], none⟩,
    ⟨some 20, .ext 0 (.t 13), [], none⟩,
    ⟨some 21, .ext 1 (.t 13), [], none⟩,
    ⟨some 1, .mov none (.t 20), [], none⟩,
    ⟨some 2, .mov none (.t 21), [], none⟩])
  (.seq (.region false [⟨some 23, .mov none (.t 0), [], none⟩,
    ⟨some 24, .mov none (.t 2), [], none⟩,
    ⟨some 25, .mov none (.t 3), [], none⟩,
    ⟨some 26, .mov none (.t 4), [], none⟩,
    ⟨some 27, .mov none (.t 5), [], none⟩,
    ⟨some 28, .call 161 [(true, .t 23), (false, .t 24), (false, .t 25), (false, .t 26), (false, .t 27)], [], none⟩,
    ⟨some 22, .mov none (.t 28), [], none⟩,
    ⟨some 29, .ext 0 (.t 22), [], none⟩,
    ⟨some 30, .ext 1 (.t 22), [], none⟩,
    ⟨some 2, .mov none (.t 29), [], none⟩,
    ⟨some 3, .mov none (.t 30), [], none⟩])
  (.seq (.region false [⟨some 32, .mov none (.t 0), [], none⟩,
    ⟨some 33, .mov none (.t 1), [], none⟩,
    ⟨some 34, .mov none (.t 2), [], none⟩,
    ⟨some 35, .mov none (.t 4), [], none⟩,
    ⟨some 36, .mov none (.t 5), [], none⟩,
    ⟨some 37, .call 161 [(true, .t 32), (false, .t 33), (false, .t 34), (false, .t 35), (false, .t 36)], [], none⟩,
    ⟨some 31, .mov none (.t 37), [], none⟩,
    ⟨some 38, .ext 0 (.t 31), [], none⟩,
    ⟨some 39, .ext 1 (.t 31), [], none⟩,
    ⟨some 1, .mov none (.t 38), [], none⟩,
    ⟨some 2, .mov none (.t 39), [], none⟩])
  (.seq (.region false [⟨some 40, .mov none (.t 2), [], none⟩,
    ⟨some 12, .mov none (.t 40), [], none⟩])
  (.ret)))))
def v157 : VFn := ⟨6, 41, [.t 12], b157⟩

theorem c157 : chkFn Try.prog 157 v157 = true := by kernel_rfl

/- math/bits.Len8 -/
def b158 : VCode := .seq (.region false [⟨some 2, .mov none (.k (.one (.iv (.int .i64 0)))), [], none⟩])
  (.seq (.region false [⟨some 3, .mov none (.t 0), [], none⟩,
    ⟨some 4, .ixT (.k (.one (.iv (.str ⟨#[0, 1, 2, 2, 3, 3, 3, 3, 4, 4, 4, 4, 4, 4, 4, 4, 5, 5, 5, 5, 5, 5, 5, 5, 5, 5, 5, 5, 5, 5, 5, 5, 6, 6, 6, 6, 6, 6, 6, 6, 6, 6, 6, 6, 6, 6, 6, 6, 6, 6, 6, 6, 6, 6, 6, 6, 6, 6, 6, 6, 6, 6, 6, 6, 7, 7, 7, 7, 7, 7, 7, 7, 7, 7, 7, 7, 7, 7, 7, 7, 7, 7, 7, 7, 7, 7, 7, 7, 7, 7, 7, 7, 7, 7, 7, 7, 7, 7, 7, 7, 7, 7, 7, 7, 7, 7, 7, 7, 7, 7, 7, 7, 7, 7, 7, 7, 7, 7, 7, 7, 7, 7, 7, 7, 7, 7, 7, 7, 8, 8, 8, 8, 8, 8, 8, 8, 8, 8, 8, 8, 8, 8, 8, 8, 8, 8, 8, 8, 8, 8, 8, 8, 8, 8, 8, 8, 8, 8, 8, 8, 8, 8, 8, 8, 8, 8, 8, 8, 8, 8, 8, 8, 8, 8, 8, 8, 8, 8, 8, 8, 8, 8, 8, 8, 8, 8, 8, 8, 8, 8, 8, 8, 8, 8, 8, 8, 8, 8, 8, 8, 8, 8, 8, 8, 8, 8, 8, 8, 8, 8, 8, 8, 8, 8, 8, 8, 8, 8, 8, 8, 8, 8, 8, 8, 8, 8, 8, 8, 8, 8, 8, 8, 8, 8, 8, 8, 8, 8, 8, 8, 8, 8, 8, 8, 8, 8, 8, 8, 8, 8, 8, 8, 8, 8, 8, 8]⟩)))) (.t 3), [], none⟩,
    ⟨some 5, .conv .i64 (.t 4), [], none⟩,
    ⟨some 2, .mov none (.t 5), [], none⟩])
  (.ret))
def v158 : VFn := ⟨1, 6, [.t 2], b158⟩

theorem c158 : chkFn Try.prog 158 v158 = true := by kernel_rfl

/- scholia/utf.Next -/
def l159_0 : VCode := .seq (.region false [⟨some 47, .bin .lss (.t 46) (.t 45), [], none⟩])
  (.seq (.cond (.t 47) (.skip) (.exit 0))
  (.seq (.block 1 (.seq (.region false [⟨some 48, .ixS 1 (.t 44) (.t 46), [], none⟩,
    ⟨some 49, .load false 1 (.t 48), [], none⟩,
    ⟨some 9, .mov none (.t 49), [], none⟩])
  (.seq (.seq (.region false [⟨some 50, .mov none (.t 9), [], none⟩,
    ⟨some 51, .bin .and (.t 50) (.k (.one (.iv (.int .u8 192)))), [], none⟩,
    ⟨some 52, .bin .neq (.t 51) (.k (.one (.iv (.int .u8 128)))), [], none⟩])
  (.cond (.t 52) (.seq (.region false [⟨some 4, .mov none (.k (.one (.iv (.int .i64 (-1))))), [], none⟩,
    ⟨some 5, .mov none (.k (.one (.iv (.int .i64 1)))), [], none⟩])
  (.ret)) (.skip)))
  (.region false [⟨some 53, .mov none (.t 7), [], none⟩,
    ⟨some 54, .bin .shl (.t 53) (.k (.one (.iv (.int .u64 6)))), [], none⟩,
    ⟨some 55, .mov none (.t 9), [], none⟩,
    ⟨some 56, .bin .and (.t 55) (.k (.one (.iv (.int .u8 63)))), [], none⟩,
    ⟨some 57, .conv .i64 (.t 56), [], none⟩,
    ⟨some 58, .bin .or (.t 54) (.t 57), [], none⟩,
    ⟨some 7, .mov none (.t 58), [], none⟩]))))
  (.region false [⟨some 59, .bin .add (.t 46) (.k (.one (.iv (.int .i64 1)))), [], none⟩,
    ⟨some 46, .mov none (.t 59), [], none⟩])))
def b159 : VCode := .seq (.region false [⟨some 4, .mov none (.k (.one (.iv (.int .i64 0)))), [], none⟩,
    ⟨some 5, .mov none (.k (.one (.iv (.int .i64 0)))), [], none⟩])
  (.seq (.seq (.region false [⟨some 10, .mov none (.t 1), [], none⟩,
    ⟨some 11, .bin .lss (.t 10) (.k (.one (.iv (.int .i64 0)))), [], none⟩,
    ⟨some 12, .mov none (.t 11), [], none⟩,
    ⟨some 13, .mov none (.t 1), [], some (12, false)⟩,
    ⟨some 14, .mov none (.t 0), [], some (12, false)⟩,
    ⟨some 15, .blt .lenS [.t 14], [], some (12, false)⟩,
    ⟨some 16, .bin .geq (.t 13) (.t 15), [], some (12, false)⟩,
    ⟨some 17, .pick (.t 12) (.k (.one (.iv (.bool true)))) (.t 16), [], none⟩])
  (.cond (.t 17) (.seq (.region false [⟨some 4, .mov none (.k (.one (.iv (.int .i64 (-1))))), [], none⟩,
    ⟨some 5, .mov none (.k (.one (.iv (.int .i64 0)))), [], none⟩])
  (.ret)) (.skip)))
  (.seq (.region false [⟨some 18, .mov none (.t 0), [], none⟩,
    ⟨some 19, .mov none (.t 1), [], none⟩,
    ⟨some 20, .ixT (.t 18) (.t 19), [], none⟩,
    ⟨some 21, .call 162 [(false, .t 20)], [], none⟩,
    ⟨some 6, .new [.iv (.int .i64 0), .iv (.int .i64 0), .iv (.int .i64 0)], [], none⟩,
    ⟨none, .store 3 (.t 6) (.t 21), [], none⟩])
  (.seq (.seq (.region false [⟨some 22, .fad 0 (.t 6), [], none⟩,
    ⟨some 23, .load false 1 (.t 22), [], none⟩,
    ⟨some 24, .bin .eql (.t 23) (.k (.one (.iv (.int .i64 0)))), [], none⟩,
    ⟨some 25, .mov none (.t 24), [], none⟩,
    ⟨some 26, .fad 0 (.t 6), [], some (25, false)⟩,
    ⟨some 27, .load false 1 (.t 26), [], some (25, false)⟩,
    ⟨some 28, .mov none (.t 0), [], some (25, false)⟩,
    ⟨some 29, .blt .lenS [.t 28], [], some (25, false)⟩,
    ⟨some 30, .mov none (.t 1), [], some (25, false)⟩,
    ⟨some 31, .bin .sub (.t 29) (.t 30), [], some (25, false)⟩,
    ⟨some 32, .bin .gtr (.t 27) (.t 31), [], some (25, false)⟩,
    ⟨some 33, .pick (.t 25) (.k (.one (.iv (.bool true)))) (.t 32), [], none⟩])
  (.cond (.t 33) (.seq (.region false [⟨some 4, .mov none (.k (.one (.iv (.int .i64 (-1))))), [], none⟩,
    ⟨some 5, .mov none (.k (.one (.iv (.int .i64 1)))), [], none⟩])
  (.ret)) (.skip)))
  (.seq (.region false [⟨some 34, .fad 1 (.t 6), [], none⟩,
    ⟨some 35, .load false 1 (.t 34), [], none⟩,
    ⟨some 7, .mov none (.t 35), [], none⟩])
  (.seq (.seq (.region false [⟨some 36, .mov none (.t 0), [], none⟩,
    ⟨some 37, .mov none (.t 1), [], none⟩,
    ⟨some 38, .bin .add (.t 37) (.k (.one (.iv (.int .i64 1)))), [], none⟩,
    ⟨some 39, .mov none (.t 1), [], none⟩,
    ⟨some 40, .fad 0 (.t 6), [], none⟩,
    ⟨some 41, .load false 1 (.t 40), [], none⟩,
    ⟨some 42, .bin .add (.t 39) (.t 41), [], none⟩,
    ⟨some 43, .slT (.t 36) (some (.t 38)) (some (.t 42)), [], none⟩,
    ⟨some 44, .s2b (.t 43), [], none⟩,
    ⟨some 45, .blt .len [.t 44], [], none⟩,
    ⟨some 46, .mov none (.k (.one (.iv (.int .i64 0)))), [], none⟩])
  (.block 0 (.loop false [6, 7, 44, 45, 46] l159_0)))
  (.seq (.seq (.region false [⟨some 60, .mov none (.t 7), [], none⟩,
    ⟨some 61, .fad 2 (.t 6), [], none⟩,
    ⟨some 62, .load false 1 (.t 61), [], none⟩,
    ⟨some 63, .bin .lss (.t 60) (.t 62), [], none⟩,
    ⟨some 64, .mov none (.t 63), [], none⟩,
    ⟨some 65, .mov none (.t 7), [], some (64, false)⟩,
    ⟨some 66, .call 163 [(false, .t 65)], [], some (64, false)⟩,
    ⟨some 67, .un .not (.t 66), [], some (64, false)⟩,
    ⟨some 68, .pick (.t 64) (.k (.one (.iv (.bool true)))) (.t 67), [], none⟩])
  (.cond (.t 68) (.seq (.region false [⟨some 4, .mov none (.k (.one (.iv (.int .i64 (-1))))), [], none⟩,
    ⟨some 5, .mov none (.k (.one (.iv (.int .i64 1)))), [], none⟩])
  (.ret)) (.skip)))
  (.seq (.region true [⟨some 69, .mov none (.t 7), [], none⟩,
    ⟨some 70, .fad 0 (.t 6), [], none⟩,
    ⟨some 71, .load false 1 (.t 70), [1], none⟩,
    ⟨some 4, .mov none (.t 69), [0], none⟩,
    ⟨some 5, .mov none (.t 71), [3, 2], none⟩])
  (.ret))))))))
def v159 : VFn := ⟨2, 72, [.t 4, .t 5], b159⟩

theorem c159 : chkFn Try.prog 159 v159 = true := by kernel_rfl

/- scholia/scholiaref03.Valid -/
def l160_0 : VCode := .seq (.region false [⟨some 10, .bin .lss (.t 9) (.t 8), [], none⟩])
  (.seq (.cond (.t 10) (.skip) (.exit 0))
  (.seq (.block 1 (.seq (.region false [⟨some 11, .mov none (.t 9), [], none⟩,
    ⟨some 4, .mov none (.t 11), [], none⟩])
  (.seq (.seq (.region false [⟨some 12, .mov none (.t 3), [], none⟩,
    ⟨some 13, .bin .gtr (.t 12) (.k (.one (.iv (.int .i64 0)))), [], none⟩])
  (.cond (.t 13) (.seq (.region false [⟨some 14, .mov none (.t 3), [], none⟩,
    ⟨some 15, .bin .sub (.t 14) (.k (.one (.iv (.int .i64 1)))), [], none⟩,
    ⟨some 3, .mov none (.t 15), [], none⟩])
  (.exit 1)) (.skip)))
  (.seq (.region false [⟨some 17, .mov none (.t 0), [], none⟩,
    ⟨some 18, .mov none (.t 4), [], none⟩,
    ⟨some 19, .call 164 [(false, .t 17), (false, .t 18)], [], none⟩,
    ⟨some 16, .mov none (.t 19), [], none⟩,
    ⟨some 20, .ext 0 (.t 16), [], none⟩,
    ⟨some 21, .ext 1 (.t 16), [], none⟩,
    ⟨some 5, .mov none (.t 20), [], none⟩,
    ⟨some 6, .mov none (.t 21), [], none⟩])
  (.seq (.seq (.region false [⟨some 22, .mov none (.t 5), [], none⟩,
    ⟨some 23, .bin .lss (.t 22) (.k (.one (.iv (.int .i64 0)))), [], none⟩])
  (.cond (.t 23) (.seq (.region false [⟨some 2, .mov none (.k (.one (.iv (.bool false)))), [], none⟩])
  (.ret)) (.skip)))
  (.region false [⟨some 24, .mov none (.t 6), [], none⟩,
    ⟨some 25, .bin .sub (.t 24) (.k (.one (.iv (.int .i64 1)))), [], none⟩,
    ⟨some 3, .mov none (.t 25), [], none⟩]))))))
  (.region false [⟨some 26, .bin .add (.t 9) (.k (.one (.iv (.int .i64 1)))), [], none⟩,
    ⟨some 9, .mov none (.t 26), [], none⟩])))
def b160 : VCode := .seq (.region false [⟨some 2, .mov none (.k (.one (.iv (.bool false)))), [], none⟩])
  (.seq (.region false [⟨some 3, .mov none (.k (.one (.iv (.int .i64 0)))), [], none⟩])
  (.seq (.seq (.region false [⟨some 7, .mov none (.t 0), [], none⟩,
    ⟨some 8, .blt .lenS [.t 7], [], none⟩,
    ⟨some 9, .mov none (.k (.one (.iv (.int .i64 0)))), [], none⟩])
  (.block 0 (.loop false [0, 3, 8, 9] l160_0)))
  (.seq (.region false [⟨some 2, .mov none (.k (.one (.iv (.bool true)))), [], none⟩])
  (.ret))))
def v160 : VFn := ⟨1, 27, [.t 2], b160⟩

theorem c160 : chkFn Try.prog 160 v160 = true := by kernel_rfl

/- slices.order2CmpFunc[scholia/api.Dot] -/
def b161 : VCode := .seq (.region false [⟨some 10, .mov none (.k (.one (.iv (.int .i64 0)))), [], none⟩,
    ⟨some 11, .mov none (.k (.one (.iv (.int .i64 0)))), [], none⟩])
  (.seq (.seq (.region true [⟨some 12, .mov none (.t 4), [], none⟩,
    ⟨some 13, .mov none (.t 0), [], none⟩,
    ⟨some 14, .mov none (.t 2), [], none⟩,
    ⟨some 15, .ixS 2 (.t 13) (.t 14), [2, 1], none⟩,
    ⟨some 16, .load true 2 (.t 15), [3], none⟩,
    ⟨some 17, .mov none (.t 0), [], none⟩,
    ⟨some 18, .mov none (.t 1), [], none⟩,
    ⟨some 19, .ixS 2 (.t 17) (.t 18), [6, 5], none⟩,
    ⟨some 20, .load true 2 (.t 19), [7], none⟩,
    ⟨some 21, .callv (.t 12) [(false, .t 16), (false, .t 20)], [8, 4, 0], none⟩,
    ⟨some 22, .bin .lss (.t 21) (.k (.one (.iv (.int .i64 0)))), [9], none⟩])
  (.cond (.t 22) (.seq (.region false [⟨some 23, .mov none (.t 3), [], none⟩,
    ⟨some 24, .nilc (.t 23), [], none⟩,
    ⟨some 25, .load false 1 (.t 24), [], none⟩,
    ⟨some 26, .bin .add (.t 25) (.k (.one (.iv (.int .i64 1)))), [], none⟩,
    ⟨some 27, .nilc (.t 23), [], none⟩,
    ⟨none, .store 1 (.t 27) (.t 26), [], none⟩])
  (.seq (.region false [⟨some 28, .mov none (.t 2), [], none⟩,
    ⟨some 29, .mov none (.t 1), [], none⟩,
    ⟨some 10, .mov none (.t 28), [], none⟩,
    ⟨some 11, .mov none (.t 29), [], none⟩])
  (.ret))) (.skip)))
  (.seq (.region false [⟨some 30, .mov none (.t 1), [], none⟩,
    ⟨some 31, .mov none (.t 2), [], none⟩,
    ⟨some 10, .mov none (.t 30), [], none⟩,
    ⟨some 11, .mov none (.t 31), [], none⟩])
  (.ret)))
def v161 : VFn := ⟨5, 32, [.t 10, .t 11], b161⟩

theorem c161 : chkFn Try.prog 161 v161 = true := by kernel_rfl

/- scholia/utf.first -/
def b162 : VCode := .seq (.region false [⟨some 2, .new [.iv (.int .i64 0), .iv (.int .i64 0), .iv (.int .i64 0)], [], none⟩])
  (.seq (.block 0 (.seq (.region false [⟨some 4, .mov none (.t 0), [], none⟩,
    ⟨some 5, .bin .lss (.t 4) (.k (.one (.iv (.int .u8 128)))), [], none⟩,
    ⟨some 3, .mov none (.t 5), [], none⟩])
  (.cond (.t 3) (.seq (.region false [⟨some 6, .mov none (.t 0), [], none⟩,
    ⟨some 7, .conv .i64 (.t 6), [], none⟩,
    ⟨some 8, .build [.iv (.int .i64 0), .iv (.int .i64 0), .iv (.int .i64 0)] [(0, 1, .k (.one (.iv (.int .i64 1)))), (1, 1, .t 7), (2, 1, .k (.one (.iv (.int .i64 0))))], [], none⟩,
    ⟨none, .store 3 (.t 2) (.t 8), [], none⟩])
  (.ret)) (.seq (.region false [⟨some 10, .mov none (.t 0), [], none⟩,
    ⟨some 11, .bin .lss (.t 10) (.k (.one (.iv (.int .u8 192)))), [], none⟩,
    ⟨some 9, .mov none (.t 11), [], none⟩])
  (.cond (.t 9) (.seq (.region false [⟨some 12, .build [.iv (.int .i64 0), .iv (.int .i64 0), .iv (.int .i64 0)] [], [], none⟩,
    ⟨none, .store 3 (.t 2) (.t 12), [], none⟩])
  (.ret)) (.seq (.region false [⟨some 14, .mov none (.t 0), [], none⟩,
    ⟨some 15, .bin .lss (.t 14) (.k (.one (.iv (.int .u8 224)))), [], none⟩,
    ⟨some 13, .mov none (.t 15), [], none⟩])
  (.cond (.t 13) (.seq (.region false [⟨some 16, .mov none (.t 0), [], none⟩,
    ⟨some 17, .bin .and (.t 16) (.k (.one (.iv (.int .u8 31)))), [], none⟩,
    ⟨some 18, .conv .i64 (.t 17), [], none⟩,
    ⟨some 19, .build [.iv (.int .i64 0), .iv (.int .i64 0), .iv (.int .i64 0)] [(0, 1, .k (.one (.iv (.int .i64 2)))), (1, 1, .t 18), (2, 1, .k (.one (.iv (.int .i64 128))))], [], none⟩,
    ⟨none, .store 3 (.t 2) (.t 19), [], none⟩])
  (.ret)) (.seq (.region false [⟨some 21, .mov none (.t 0), [], none⟩,
    ⟨some 22, .bin .lss (.t 21) (.k (.one (.iv (.int .u8 240)))), [], none⟩,
    ⟨some 20, .mov none (.t 22), [], none⟩])
  (.cond (.t 20) (.seq (.region false [⟨some 23, .mov none (.t 0), [], none⟩,
    ⟨some 24, .bin .and (.t 23) (.k (.one (.iv (.int .u8 15)))), [], none⟩,
    ⟨some 25, .conv .i64 (.t 24), [], none⟩,
    ⟨some 26, .build [.iv (.int .i64 0), .iv (.int .i64 0), .iv (.int .i64 0)] [(0, 1, .k (.one (.iv (.int .i64 3)))), (1, 1, .t 25), (2, 1, .k (.one (.iv (.int .i64 2048))))], [], none⟩,
    ⟨none, .store 3 (.t 2) (.t 26), [], none⟩])
  (.ret)) (.seq (.region false [⟨some 28, .mov none (.t 0), [], none⟩,
    ⟨some 29, .bin .lss (.t 28) (.k (.one (.iv (.int .u8 248)))), [], none⟩,
    ⟨some 27, .mov none (.t 29), [], none⟩])
  (.cond (.t 27) (.seq (.region false [⟨some 30, .mov none (.t 0), [], none⟩,
    ⟨some 31, .bin .and (.t 30) (.k (.one (.iv (.int .u8 7)))), [], none⟩,
    ⟨some 32, .conv .i64 (.t 31), [], none⟩,
    ⟨some 33, .build [.iv (.int .i64 0), .iv (.int .i64 0), .iv (.int .i64 0)] [(0, 1, .k (.one (.iv (.int .i64 4)))), (1, 1, .t 32), (2, 1, .k (.one (.iv (.int .i64 65536))))], [], none⟩,
    ⟨none, .store 3 (.t 2) (.t 33), [], none⟩])
  (.ret)) (.skip))))))))))))
  (.seq (.region false [⟨some 34, .build [.iv (.int .i64 0), .iv (.int .i64 0), .iv (.int .i64 0)] [], [], none⟩,
    ⟨none, .store 3 (.t 2) (.t 34), [], none⟩])
  (.ret)))
def v162 : VFn := ⟨1, 35, [.c 2 true 3], b162⟩

theorem c162 : chkFn Try.prog 162 v162 = true := by kernel_rfl

/- scholia/utf.Sign -/
def b163 : VCode := .seq (.region false [⟨some 2, .mov none (.k (.one (.iv (.bool false)))), [], none⟩])
  (.seq (.region false [⟨some 3, .mov none (.t 0), [], none⟩,
    ⟨some 4, .bin .geq (.t 3) (.k (.one (.iv (.int .i64 0)))), [], none⟩,
    ⟨some 5, .mov none (.t 4), [], none⟩,
    ⟨some 6, .mov none (.t 0), [], some (5, true)⟩,
    ⟨some 7, .bin .leq (.t 6) (.k (.one (.iv (.int .i64 1114111)))), [], some (5, true)⟩,
    ⟨some 8, .pick (.t 5) (.t 7) (.k (.one (.iv (.bool false)))), [], none⟩,
    ⟨some 9, .mov none (.t 8), [], none⟩,
    ⟨some 10, .mov none (.t 0), [], some (9, true)⟩,
    ⟨some 11, .bin .lss (.t 10) (.k (.one (.iv (.int .i64 55296)))), [], some (9, true)⟩,
    ⟨some 12, .mov none (.t 11), [], some (9, true)⟩,
    ⟨some 13, .mov none (.t 0), [], some (12, false)⟩,
    ⟨some 14, .bin .gtr (.t 13) (.k (.one (.iv (.int .i64 57343)))), [], some (12, false)⟩,
    ⟨some 15, .pick (.t 12) (.k (.one (.iv (.bool true)))) (.t 14), [], some (9, true)⟩,
    ⟨some 16, .pick (.t 9) (.t 15) (.k (.one (.iv (.bool false)))), [], none⟩,
    ⟨some 2, .mov none (.t 16), [], none⟩])
  (.ret))
def v163 : VFn := ⟨1, 17, [.t 2], b163⟩

theorem c163 : chkFn Try.prog 163 v163 = true := by kernel_rfl

/- scholia/scholiaref03.Next -/
def l164_0 : VCode := .seq (.region false [⟨some 22, .bin .lss (.t 21) (.k (.one (.iv (.int .i64 4)))), [], none⟩])
  (.seq (.cond (.t 22) (.skip) (.exit 0))
  (.seq (.block 1 (.seq (.region false [⟨some 23, .mov none (.t 21), [], none⟩,
    ⟨some 7, .mov none (.t 23), [], none⟩])
  (.seq (.region false [⟨some 24, .mov none (.t 7), [], none⟩,
    ⟨some 25, .bin .add (.t 24) (.k (.one (.iv (.int .i64 1)))), [], none⟩,
    ⟨some 8, .mov none (.t 25), [], none⟩])
  (.seq (.seq (.region false [⟨some 26, .mov none (.t 8), [], none⟩,
    ⟨some 27, .mov none (.t 6), [], none⟩,
    ⟨some 28, .blt .lenS [.t 27], [], none⟩,
    ⟨some 29, .bin .gtr (.t 26) (.t 28), [], none⟩])
  (.cond (.t 29) (.seq (.region false [⟨some 4, .mov none (.k (.one (.iv (.int .i64 (-1))))), [], none⟩,
    ⟨some 5, .mov none (.k (.one (.iv (.int .i64 1)))), [], none⟩])
  (.ret)) (.skip)))
  (.seq (.region false [⟨some 9, .mov none (.k (.one (.iv (.int .i64 0)))), [], none⟩])
  (.seq (.seq (.region false [⟨some 30, .mov none (.t 8), [], none⟩,
    ⟨some 31, .bin .eql (.t 30) (.k (.one (.iv (.int .i64 1)))), [], none⟩])
  (.cond (.t 31) (.region false [⟨some 32, .mov none (.t 6), [], none⟩,
    ⟨some 33, .ixT (.t 32) (.k (.one (.iv (.int .i64 0)))), [], none⟩,
    ⟨some 34, .conv .i64 (.t 33), [], none⟩,
    ⟨some 9, .mov none (.t 34), [], none⟩]) (.skip)))
  (.seq (.seq (.region false [⟨some 35, .mov none (.t 8), [], none⟩,
    ⟨some 36, .bin .eql (.t 35) (.k (.one (.iv (.int .i64 2)))), [], none⟩])
  (.cond (.t 36) (.region true [⟨some 37, .mov none (.t 6), [], none⟩,
    ⟨some 38, .ixT (.t 37) (.k (.one (.iv (.int .i64 0)))), [0], none⟩,
    ⟨some 39, .conv .i64 (.t 38), [1], none⟩,
    ⟨some 40, .bin .rem (.t 39) (.k (.one (.iv (.int .i64 32)))), [2], none⟩,
    ⟨some 41, .bin .mul (.t 40) (.k (.one (.iv (.int .i64 64)))), [3], none⟩,
    ⟨some 42, .mov none (.t 6), [], none⟩,
    ⟨some 43, .ixT (.t 42) (.k (.one (.iv (.int .i64 1)))), [5], none⟩,
    ⟨some 44, .call 165 [(false, .t 43)], [6], none⟩,
    ⟨some 45, .bin .add (.t 41) (.t 44), [7, 4], none⟩,
    ⟨some 9, .mov none (.t 45), [8], none⟩]) (.skip)))
  (.seq (.seq (.region false [⟨some 46, .mov none (.t 8), [], none⟩,
    ⟨some 47, .bin .eql (.t 46) (.k (.one (.iv (.int .i64 3)))), [], none⟩])
  (.cond (.t 47) (.region true [⟨some 48, .mov none (.t 6), [], none⟩,
    ⟨some 49, .ixT (.t 48) (.k (.one (.iv (.int .i64 0)))), [0], none⟩,
    ⟨some 50, .conv .i64 (.t 49), [1], none⟩,
    ⟨some 51, .bin .rem (.t 50) (.k (.one (.iv (.int .i64 16)))), [2], none⟩,
    ⟨some 52, .bin .mul (.t 51) (.k (.one (.iv (.int .i64 4096)))), [3], none⟩,
    ⟨some 53, .mov none (.t 6), [], none⟩,
    ⟨some 54, .ixT (.t 53) (.k (.one (.iv (.int .i64 1)))), [5], none⟩,
    ⟨some 55, .call 165 [(false, .t 54)], [6], none⟩,
    ⟨some 56, .bin .mul (.t 55) (.k (.one (.iv (.int .i64 64)))), [7], none⟩,
    ⟨some 57, .bin .add (.t 52) (.t 56), [8, 4], none⟩,
    ⟨some 58, .mov none (.t 6), [], none⟩,
    ⟨some 59, .ixT (.t 58) (.k (.one (.iv (.int .i64 2)))), [10], none⟩,
    ⟨some 60, .call 165 [(false, .t 59)], [11, 7], none⟩,
    ⟨some 61, .bin .add (.t 57) (.t 60), [12, 9], none⟩,
    ⟨some 9, .mov none (.t 61), [13], none⟩]) (.skip)))
  (.seq (.seq (.region false [⟨some 62, .mov none (.t 8), [], none⟩,
    ⟨some 63, .bin .eql (.t 62) (.k (.one (.iv (.int .i64 4)))), [], none⟩])
  (.cond (.t 63) (.region true [⟨some 64, .mov none (.t 6), [], none⟩,
    ⟨some 65, .ixT (.t 64) (.k (.one (.iv (.int .i64 0)))), [0], none⟩,
    ⟨some 66, .conv .i64 (.t 65), [1], none⟩,
    ⟨some 67, .bin .rem (.t 66) (.k (.one (.iv (.int .i64 8)))), [2], none⟩,
    ⟨some 68, .bin .mul (.t 67) (.k (.one (.iv (.int .i64 262144)))), [3], none⟩,
    ⟨some 69, .mov none (.t 6), [], none⟩,
    ⟨some 70, .ixT (.t 69) (.k (.one (.iv (.int .i64 1)))), [5], none⟩,
    ⟨some 71, .call 165 [(false, .t 70)], [6], none⟩,
    ⟨some 72, .bin .mul (.t 71) (.k (.one (.iv (.int .i64 4096)))), [7], none⟩,
    ⟨some 73, .bin .add (.t 68) (.t 72), [8, 4], none⟩,
    ⟨some 74, .mov none (.t 6), [], none⟩,
    ⟨some 75, .ixT (.t 74) (.k (.one (.iv (.int .i64 2)))), [10], none⟩,
    ⟨some 76, .call 165 [(false, .t 75)], [11, 7], none⟩,
    ⟨some 77, .bin .mul (.t 76) (.k (.one (.iv (.int .i64 64)))), [12], none⟩,
    ⟨some 78, .bin .add (.t 73) (.t 77), [13, 9], none⟩,
    ⟨some 79, .mov none (.t 6), [], none⟩,
    ⟨some 80, .ixT (.t 79) (.k (.one (.iv (.int .i64 3)))), [15], none⟩,
    ⟨some 81, .call 165 [(false, .t 80)], [16, 12], none⟩,
    ⟨some 82, .bin .add (.t 78) (.t 81), [17, 14], none⟩,
    ⟨some 9, .mov none (.t 82), [18], none⟩]) (.skip)))
  (.seq (.region true [⟨some 83, .mov none (.t 9), [], none⟩,
    ⟨some 84, .call 166 [(false, .t 83)], [0], none⟩,
    ⟨some 85, .b2s (.t 84), [1], none⟩,
    ⟨some 86, .mov none (.t 6), [], none⟩,
    ⟨some 87, .mov none (.t 8), [], none⟩,
    ⟨some 88, .slT (.t 86) none (some (.t 87)), [4, 3], none⟩,
    ⟨some 89, .bin .eql (.t 85) (.t 88), [5, 2], none⟩])
  (.cond (.t 89) (.seq (.region false [⟨some 90, .mov none (.t 9), [], none⟩,
    ⟨some 91, .mov none (.t 8), [], none⟩,
    ⟨some 4, .mov none (.t 90), [], none⟩,
    ⟨some 5, .mov none (.t 91), [], none⟩])
  (.ret)) (.skip))))))))))))
  (.region false [⟨some 92, .bin .add (.t 21) (.k (.one (.iv (.int .i64 1)))), [], none⟩,
    ⟨some 21, .mov none (.t 92), [], none⟩])))
def b164 : VCode := .seq (.region false [⟨some 4, .mov none (.k (.one (.iv (.int .i64 0)))), [], none⟩,
    ⟨some 5, .mov none (.k (.one (.iv (.int .i64 0)))), [], none⟩])
  (.seq (.seq (.region false [⟨some 10, .mov none (.t 1), [], none⟩,
    ⟨some 11, .bin .lss (.t 10) (.k (.one (.iv (.int .i64 0)))), [], none⟩,
    ⟨some 12, .mov none (.t 11), [], none⟩,
    ⟨some 13, .mov none (.t 1), [], some (12, false)⟩,
    ⟨some 14, .mov none (.t 0), [], some (12, false)⟩,
    ⟨some 15, .blt .lenS [.t 14], [], some (12, false)⟩,
    ⟨some 16, .bin .geq (.t 13) (.t 15), [], some (12, false)⟩,
    ⟨some 17, .pick (.t 12) (.k (.one (.iv (.bool true)))) (.t 16), [], none⟩])
  (.cond (.t 17) (.seq (.region false [⟨some 4, .mov none (.k (.one (.iv (.int .i64 (-1))))), [], none⟩,
    ⟨some 5, .mov none (.k (.one (.iv (.int .i64 0)))), [], none⟩])
  (.ret)) (.skip)))
  (.seq (.region false [⟨some 18, .mov none (.t 0), [], none⟩,
    ⟨some 19, .mov none (.t 1), [], none⟩,
    ⟨some 20, .slT (.t 18) (some (.t 19)) none, [], none⟩,
    ⟨some 6, .mov none (.t 20), [], none⟩])
  (.seq (.seq (.region false [⟨some 21, .mov none (.k (.one (.iv (.int .i64 0)))), [], none⟩])
  (.block 0 (.loop false [6, 21] l164_0)))
  (.seq (.region false [⟨some 4, .mov none (.k (.one (.iv (.int .i64 (-1))))), [], none⟩,
    ⟨some 5, .mov none (.k (.one (.iv (.int .i64 1)))), [], none⟩])
  (.ret)))))
def v164 : VFn := ⟨2, 93, [.t 4, .t 5], b164⟩

theorem c164 : chkFn Try.prog 164 v164 = true := by kernel_rfl

/- scholia/scholiaref03.value -/
def b165 : VCode := .seq (.region false [⟨some 2, .mov none (.k (.one (.iv (.int .i64 0)))), [], none⟩])
  (.seq (.region false [⟨some 3, .mov none (.t 0), [], none⟩,
    ⟨some 4, .conv .i64 (.t 3), [], none⟩,
    ⟨some 5, .bin .rem (.t 4) (.k (.one (.iv (.int .i64 64)))), [], none⟩,
    ⟨some 2, .mov none (.t 5), [], none⟩])
  (.ret))
def v165 : VFn := ⟨1, 6, [.t 2], b165⟩

theorem c165 : chkFn Try.prog 165 v165 = true := by kernel_rfl

/- scholia/scholiaref03.Bytes -/
def b166 : VCode := .seq (.region false [⟨some 2, .mov none (.k (.one (.iv (.sl true 0 [])))), [], none⟩])
  (.seq (.seq (.region false [⟨some 3, .mov none (.t 0), [], none⟩,
    ⟨some 4, .call 167 [(false, .t 3)], [], none⟩,
    ⟨some 5, .un .not (.t 4), [], none⟩])
  (.cond (.t 5) (.seq (.region false [⟨some 2, .mov none (.k (.one (.iv (.sl true 0 [])))), [], none⟩])
  (.ret)) (.skip)))
  (.seq (.seq (.region false [⟨some 6, .mov none (.t 0), [], none⟩,
    ⟨some 7, .bin .leq (.t 6) (.k (.one (.iv (.int .i64 127)))), [], none⟩])
  (.cond (.t 7) (.seq (.region false [⟨some 8, .mov none (.t 0), [], none⟩,
    ⟨some 9, .conv .u8 (.t 8), [], none⟩,
    ⟨some 10, .mks false 1 [.t 9], [], none⟩,
    ⟨some 2, .mov none (.t 10), [], none⟩])
  (.ret)) (.skip)))
  (.seq (.seq (.region false [⟨some 11, .mov none (.t 0), [], none⟩,
    ⟨some 12, .bin .leq (.t 11) (.k (.one (.iv (.int .i64 2047)))), [], none⟩])
  (.cond (.t 12) (.seq (.region false [⟨some 13, .mov none (.t 0), [], none⟩,
    ⟨some 14, .bin .quo (.t 13) (.k (.one (.iv (.int .i64 64)))), [], none⟩,
    ⟨some 15, .bin .add (.k (.one (.iv (.int .i64 192)))) (.t 14), [], none⟩,
    ⟨some 16, .conv .u8 (.t 15), [], none⟩,
    ⟨some 17, .mov none (.t 0), [], none⟩,
    ⟨some 18, .bin .rem (.t 17) (.k (.one (.iv (.int .i64 64)))), [], none⟩,
    ⟨some 19, .bin .add (.k (.one (.iv (.int .i64 128)))) (.t 18), [], none⟩,
    ⟨some 20, .conv .u8 (.t 19), [], none⟩,
    ⟨some 21, .mks false 1 [.t 16, .t 20], [], none⟩,
    ⟨some 2, .mov none (.t 21), [], none⟩])
  (.ret)) (.skip)))
  (.seq (.seq (.region false [⟨some 22, .mov none (.t 0), [], none⟩,
    ⟨some 23, .bin .leq (.t 22) (.k (.one (.iv (.int .i64 65535)))), [], none⟩])
  (.cond (.t 23) (.seq (.region false [⟨some 24, .mov none (.t 0), [], none⟩,
    ⟨some 25, .bin .quo (.t 24) (.k (.one (.iv (.int .i64 4096)))), [], none⟩,
    ⟨some 26, .bin .add (.k (.one (.iv (.int .i64 224)))) (.t 25), [], none⟩,
    ⟨some 27, .conv .u8 (.t 26), [], none⟩,
    ⟨some 28, .mov none (.t 0), [], none⟩,
    ⟨some 29, .bin .quo (.t 28) (.k (.one (.iv (.int .i64 64)))), [], none⟩,
    ⟨some 30, .bin .rem (.t 29) (.k (.one (.iv (.int .i64 64)))), [], none⟩,
    ⟨some 31, .bin .add (.k (.one (.iv (.int .i64 128)))) (.t 30), [], none⟩,
    ⟨some 32, .conv .u8 (.t 31), [], none⟩,
    ⟨some 33, .mov none (.t 0), [], none⟩,
    ⟨some 34, .bin .rem (.t 33) (.k (.one (.iv (.int .i64 64)))), [], none⟩,
    ⟨some 35, .bin .add (.k (.one (.iv (.int .i64 128)))) (.t 34), [], none⟩,
    ⟨some 36, .conv .u8 (.t 35), [], none⟩,
    ⟨some 37, .mks false 1 [.t 27, .t 32, .t 36], [], none⟩,
    ⟨some 2, .mov none (.t 37), [], none⟩])
  (.ret)) (.skip)))
  (.seq (.region false [⟨some 38, .mov none (.t 0), [], none⟩,
    ⟨some 39, .bin .quo (.t 38) (.k (.one (.iv (.int .i64 262144)))), [], none⟩,
    ⟨some 40, .bin .add (.k (.one (.iv (.int .i64 240)))) (.t 39), [], none⟩,
    ⟨some 41, .conv .u8 (.t 40), [], none⟩,
    ⟨some 42, .mov none (.t 0), [], none⟩,
    ⟨some 43, .bin .quo (.t 42) (.k (.one (.iv (.int .i64 4096)))), [], none⟩,
    ⟨some 44, .bin .rem (.t 43) (.k (.one (.iv (.int .i64 64)))), [], none⟩,
    ⟨some 45, .bin .add (.k (.one (.iv (.int .i64 128)))) (.t 44), [], none⟩,
    ⟨some 46, .conv .u8 (.t 45), [], none⟩,
    ⟨some 47, .mov none (.t 0), [], none⟩,
    ⟨some 48, .bin .quo (.t 47) (.k (.one (.iv (.int .i64 64)))), [], none⟩,
    ⟨some 49, .bin .rem (.t 48) (.k (.one (.iv (.int .i64 64)))), [], none⟩,
    ⟨some 50, .bin .add (.k (.one (.iv (.int .i64 128)))) (.t 49), [], none⟩,
    ⟨some 51, .conv .u8 (.t 50), [], none⟩,
    ⟨some 52, .mov none (.t 0), [], none⟩,
    ⟨some 53, .bin .rem (.t 52) (.k (.one (.iv (.int .i64 64)))), [], none⟩,
    ⟨some 54, .bin .add (.k (.one (.iv (.int .i64 128)))) (.t 53), [], none⟩,
    ⟨some 55, .conv .u8 (.t 54), [], none⟩,
    ⟨some 56, .mks false 1 [.t 41, .t 46, .t 51, .t 55], [], none⟩,
    ⟨some 2, .mov none (.t 56), [], none⟩])
  (.ret))))))
def v166 : VFn := ⟨1, 57, [.t 2], b166⟩

theorem c166 : chkFn Try.prog 166 v166 = true := by kernel_rfl

/- scholia/scholiaref03.Sign -/
def b167 : VCode := .seq (.region false [⟨some 2, .mov none (.k (.one (.iv (.bool false)))), [], none⟩])
  (.seq (.region false [⟨some 3, .mov none (.t 0), [], none⟩,
    ⟨some 4, .bin .geq (.t 3) (.k (.one (.iv (.int .i64 0)))), [], none⟩,
    ⟨some 5, .mov none (.t 4), [], none⟩,
    ⟨some 6, .mov none (.t 0), [], some (5, true)⟩,
    ⟨some 7, .bin .lss (.t 6) (.k (.one (.iv (.int .i64 55296)))), [], some (5, true)⟩,
    ⟨some 8, .pick (.t 5) (.t 7) (.k (.one (.iv (.bool false)))), [], none⟩,
    ⟨some 9, .mov none (.t 8), [], none⟩,
    ⟨some 10, .mov none (.t 0), [], some (9, false)⟩,
    ⟨some 11, .bin .gtr (.t 10) (.k (.one (.iv (.int .i64 57343)))), [], some (9, false)⟩,
    ⟨some 12, .mov none (.t 11), [], some (9, false)⟩,
    ⟨some 13, .mov none (.t 0), [], some (12, true)⟩,
    ⟨some 14, .bin .leq (.t 13) (.k (.one (.iv (.int .i64 1114111)))), [], some (12, true)⟩,
    ⟨some 15, .pick (.t 12) (.t 14) (.k (.one (.iv (.bool false)))), [], some (9, false)⟩,
    ⟨some 16, .pick (.t 9) (.k (.one (.iv (.bool true)))) (.t 15), [], none⟩,
    ⟨some 2, .mov none (.t 16), [], none⟩])
  (.ret))
def v167 : VFn := ⟨1, 17, [.t 2], b167⟩

theorem c167 : chkFn Try.prog 167 v167 = true := by kernel_rfl

def tab : List (Nat × VFn) := [(9, v9), (10, v10), (15, v15), (16, v16), (17, v17), (18, v18), (19, v19), (20, v20), (23, v23), (25, v25), (32, v32), (33, v33), (34, v34), (44, v44), (45, v45), (46, v46), (47, v47), (48, v48), (50, v50), (51, v51), (52, v52), (53, v53), (54, v54), (55, v55), (57, v57), (65, v65), (69, v69), (70, v70), (71, v71), (72, v72), (73, v73), (74, v74), (75, v75), (76, v76), (77, v77), (81, v81), (82, v82), (84, v84), (85, v85), (88, v88), (89, v89), (90, v90), (91, v91), (92, v92), (93, v93), (94, v94), (95, v95), (96, v96), (97, v97), (103, v103), (104, v104), (105, v105), (106, v106), (107, v107), (108, v108), (109, v109), (110, v110), (111, v111), (112, v112), (113, v113), (114, v114), (115, v115), (116, v116), (117, v117), (118, v118), (121, v121), (122, v122), (123, v123), (124, v124), (125, v125), (126, v126), (129, v129), (130, v130), (131, v131), (132, v132), (133, v133), (134, v134), (135, v135), (136, v136), (137, v137), (138, v138), (139, v139), (140, v140), (141, v141), (142, v142), (143, v143), (144, v144), (145, v145), (146, v146), (147, v147), (148, v148), (149, v149), (150, v150), (151, v151), (152, v152), (153, v153), (154, v154), (155, v155), (156, v156), (157, v157), (158, v158), (159, v159), (160, v160), (161, v161), (162, v162), (163, v163), (164, v164), (165, v165), (166, v166), (167, v167)]

theorem tab_ok : TabOK Try.prog (lookT tab) := tabOK_cons c9 (tabOK_cons c10 (tabOK_cons c15 (tabOK_cons c16 (tabOK_cons c17 (tabOK_cons c18 (tabOK_cons c19 (tabOK_cons c20 (tabOK_cons c23 (tabOK_cons c25 (tabOK_cons c32 (tabOK_cons c33 (tabOK_cons c34 (tabOK_cons c44 (tabOK_cons c45 (tabOK_cons c46 (tabOK_cons c47 (tabOK_cons c48 (tabOK_cons c50 (tabOK_cons c51 (tabOK_cons c52 (tabOK_cons c53 (tabOK_cons c54 (tabOK_cons c55 (tabOK_cons c57 (tabOK_cons c65 (tabOK_cons c69 (tabOK_cons c70 (tabOK_cons c71 (tabOK_cons c72 (tabOK_cons c73 (tabOK_cons c74 (tabOK_cons c75 (tabOK_cons c76 (tabOK_cons c77 (tabOK_cons c81 (tabOK_cons c82 (tabOK_cons c84 (tabOK_cons c85 (tabOK_cons c88 (tabOK_cons c89 (tabOK_cons c90 (tabOK_cons c91 (tabOK_cons c92 (tabOK_cons c93 (tabOK_cons c94 (tabOK_cons c95 (tabOK_cons c96 (tabOK_cons c97 (tabOK_cons c103 (tabOK_cons c104 (tabOK_cons c105 (tabOK_cons c106 (tabOK_cons c107 (tabOK_cons c108 (tabOK_cons c109 (tabOK_cons c110 (tabOK_cons c111 (tabOK_cons c112 (tabOK_cons c113 (tabOK_cons c114 (tabOK_cons c115 (tabOK_cons c116 (tabOK_cons c117 (tabOK_cons c118 (tabOK_cons c121 (tabOK_cons c122 (tabOK_cons c123 (tabOK_cons c124 (tabOK_cons c125 (tabOK_cons c126 (tabOK_cons c129 (tabOK_cons c130 (tabOK_cons c131 (tabOK_cons c132 (tabOK_cons c133 (tabOK_cons c134 (tabOK_cons c135 (tabOK_cons c136 (tabOK_cons c137 (tabOK_cons c138 (tabOK_cons c139 (tabOK_cons c140 (tabOK_cons c141 (tabOK_cons c142 (tabOK_cons c143 (tabOK_cons c144 (tabOK_cons c145 (tabOK_cons c146 (tabOK_cons c147 (tabOK_cons c148 (tabOK_cons c149 (tabOK_cons c150 (tabOK_cons c151 (tabOK_cons c152 (tabOK_cons c153 (tabOK_cons c154 (tabOK_cons c155 (tabOK_cons c156 (tabOK_cons c157 (tabOK_cons c158 (tabOK_cons c159 (tabOK_cons c160 (tabOK_cons c161 (tabOK_cons c162 (tabOK_cons c163 (tabOK_cons c164 (tabOK_cons c165 (tabOK_cons c166 (tabOK_cons c167 tabOK_nil)))))))))))))))))))))))))))))))))))))))))))))))))))))))))))))))))))))))))))))))))))))))))))))))))))))))))))))

def clones : List (Nat × Nat × Nat) := [(83, 2, 16), (49, 1, 1)]

theorem clones_ok : chkClones Try.prog clones = true := by kernel_rfl

theorem mixed : Try.prog.follows .mixedOrders = true := by kernel_rfl

theorem pr_ok : PrOK Try.prog (fun _ => clonePr clones) := fun _ _ _ => clonePr_ok mixed clones_ok

theorem pr_mono : PrMono (fun _ => clonePr clones) := const_mono

abbrev Pl (f : Nat) (vs : List FV) (v : FV) (bs : List Blk) : Prop := Plays (lookT tab) (fun _ => clonePr clones) f vs [] (v, bs)

end Go.Proofs.Ytomchclmnmhjaaa
