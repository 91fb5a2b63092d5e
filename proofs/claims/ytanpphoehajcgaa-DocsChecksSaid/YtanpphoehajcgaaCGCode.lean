/- The code of the functions that a statement reaches, as V-code, checked against the program. Printed by a program. -/
import Derived.Test.YtanpphoehajcgaaV3
import Derived.Test.YtanpphoehajcgaaChecked
import Derived.KernelRfl
set_option maxRecDepth 100000
namespace Go.Proofs.Ytanpphoehajcgaa
open Go GoV

/- scholia/scholialaw12.DocsChecks -/
def b3 : VCode := .seq (.region false [⟨some 5, .box (.t 2), [], none⟩,
    ⟨some 6, .mov none (.k (.one (.iv (.bool false)))), [], none⟩])
  (.seq (.seq (.region false [⟨some 7, .mov none (.t 0), [], none⟩,
    ⟨some 8, .blt .lenS [.t 7], [], none⟩,
    ⟨some 9, .bin .gtr (.t 8) (.k (.one (.iv (.int .i64 4096)))), [], none⟩,
    ⟨some 10, .mov none (.t 9), [], none⟩,
    ⟨some 11, .load true 8 (.t 5), [], some (10, false)⟩,
    ⟨some 12, .mks false 8 [.t 11], [], some (10, false)⟩,
    ⟨some 13, .mks false 1 [.t 12], [], some (10, false)⟩,
    ⟨some 14, .call 9 [(false, .t 13)], [], some (10, false)⟩,
    ⟨some 15, .un .not (.t 14), [], some (10, false)⟩,
    ⟨some 16, .pick (.t 10) (.k (.one (.iv (.bool true)))) (.t 15), [], none⟩])
  (.cond (.t 16) (.seq (.region false [⟨some 17, .call 10 [], [], none⟩,
    ⟨some 6, .mov none (.t 17), [], none⟩])
  (.ret)) (.skip)))
  (.seq (.region true [⟨some 18, .mov none (.t 0), [], none⟩,
    ⟨some 19, .call 11 [(false, .t 18)], [0], none⟩,
    ⟨some 20, .mov none (.t 0), [], none⟩,
    ⟨some 21, .call 12 [(false, .t 20)], [2, 1], none⟩,
    ⟨some 22, .eqs .eql .bool (.t 19) (.t 21), [3], none⟩,
    ⟨some 23, .mov none (.t 22), [4], none⟩,
    ⟨some 24, .mov none (.t 1), [5], some (23, true)⟩,
    ⟨some 25, .mov none (.t 0), [5], some (23, true)⟩,
    ⟨some 26, .call 13 [(false, .t 24), (false, .t 25)], [7, 6], some (23, true)⟩,
    ⟨some 27, .mov none (.t 1), [5], some (23, true)⟩,
    ⟨some 28, .mov none (.t 0), [5], some (23, true)⟩,
    ⟨some 29, .call 14 [(false, .t 27), (false, .t 28)], [10, 9, 8], some (23, true)⟩,
    ⟨some 30, .bin .eql (.t 26) (.t 29), [11], some (23, true)⟩,
    ⟨some 31, .pick (.t 23) (.t 30) (.k (.one (.iv (.bool false)))), [12], none⟩,
    ⟨some 32, .mov none (.t 31), [13], none⟩,
    ⟨some 33, .load true 8 (.t 5), [14], some (32, true)⟩,
    ⟨some 34, .call 15 [(false, .t 33)], [15], some (32, true)⟩,
    ⟨some 35, .load true 8 (.t 5), [14], some (32, true)⟩,
    ⟨some 36, .call 16 [(false, .t 35)], [17, 16], some (32, true)⟩,
    ⟨some 37, .bin .eql (.t 34) (.t 36), [18], some (32, true)⟩,
    ⟨some 38, .pick (.t 32) (.t 37) (.k (.one (.iv (.bool false)))), [19], none⟩,
    ⟨some 39, .mov none (.t 38), [20], none⟩,
    ⟨some 40, .call 10 [], [21], some (39, true)⟩,
    ⟨some 41, .pick (.t 39) (.t 40) (.k (.one (.iv (.bool false)))), [22], none⟩,
    ⟨some 6, .mov none (.t 41), [23], none⟩])
  (.ret)))
def v3 : VFn := ⟨3, 42, [.t 6], b3⟩

theorem c3 : chkFn Try.prog 3 v3 = true := by kernel_rfl

/- scholia/scholiaplain.Few -/
def l9_1 : VCode := .seq (.region false [⟨some 25, .bin .lss (.t 24) (.t 23), [], none⟩])
  (.seq (.cond (.t 25) (.skip) (.exit 2))
  (.seq (.block 3 (.seq (.region false [⟨some 26, .ixS 8 (.t 22) (.t 24), [], none⟩,
    ⟨some 27, .load true 8 (.t 26), [], none⟩,
    ⟨some 8, .new [.iv (.int .i64 0), .iv (.int .i64 0), .iv (.int .i64 0), .iv (.int .i64 0), .iv (.str ⟨#[]⟩), .iv (.int .i64 0), .iv (.str ⟨#[]⟩), .iv (.sl true 0 [])], [], none⟩,
    ⟨none, .store 8 (.t 8) (.t 27), [], none⟩])
  (.seq (.seq (.region false [⟨some 28, .fad 7 (.t 8), [], none⟩,
    ⟨some 29, .load false 1 (.t 28), [], none⟩,
    ⟨some 30, .blt .len [.t 29], [], none⟩,
    ⟨some 31, .bin .gtr (.t 30) (.k (.one (.iv (.int .i64 130)))), [], none⟩])
  (.cond (.t 31) (.seq (.region false [⟨some 2, .mov none (.k (.one (.iv (.bool false)))), [], none⟩])
  (.ret)) (.skip)))
  (.seq (.region false [⟨some 32, .mov none (.t 4), [], none⟩,
    ⟨some 33, .fad 4 (.t 8), [], none⟩,
    ⟨some 34, .load false 1 (.t 33), [], none⟩,
    ⟨some 35, .blt .lenS [.t 34], [], none⟩,
    ⟨some 36, .blt .min [.t 35, .k (.one (.iv (.int .i64 8192)))], [], none⟩,
    ⟨some 37, .fad 6 (.t 8), [], none⟩,
    ⟨some 38, .load false 1 (.t 37), [], none⟩,
    ⟨some 39, .blt .lenS [.t 38], [], none⟩,
    ⟨some 40, .blt .min [.t 39, .k (.one (.iv (.int .i64 8192)))], [], none⟩,
    ⟨some 41, .bin .add (.t 36) (.t 40), [], none⟩,
    ⟨some 42, .bin .add (.t 32) (.t 41), [], none⟩,
    ⟨some 4, .mov none (.t 42), [], none⟩])
  (.seq (.region false [⟨some 43, .mov none (.t 4), [], none⟩,
    ⟨some 44, .bin .gtr (.t 43) (.k (.one (.iv (.int .i64 8192)))), [], none⟩])
  (.cond (.t 44) (.seq (.region false [⟨some 2, .mov none (.k (.one (.iv (.bool false)))), [], none⟩])
  (.ret)) (.skip)))))))
  (.region false [⟨some 45, .bin .add (.t 24) (.k (.one (.iv (.int .i64 1)))), [], none⟩,
    ⟨some 24, .mov none (.t 45), [], none⟩])))
def l9_0 : VCode := .seq (.region false [⟨some 12, .bin .lss (.t 11) (.t 10), [], none⟩])
  (.seq (.cond (.t 12) (.skip) (.exit 0))
  (.seq (.block 1 (.seq (.region false [⟨some 13, .ixS 1 (.t 9) (.t 11), [], none⟩,
    ⟨some 14, .load false 1 (.t 13), [], none⟩,
    ⟨some 6, .mov none (.t 14), [], none⟩])
  (.seq (.seq (.region false [⟨some 15, .mov none (.t 3), [], none⟩,
    ⟨some 16, .mov none (.t 6), [], none⟩,
    ⟨some 17, .blt .len [.t 16], [], none⟩,
    ⟨some 18, .blt .min [.t 17, .k (.one (.iv (.int .i64 100)))], [], none⟩,
    ⟨some 19, .bin .add (.t 15) (.t 18), [], none⟩,
    ⟨some 3, .mov none (.t 19), [], none⟩])
  (.seq (.region false [⟨some 20, .mov none (.t 3), [], none⟩,
    ⟨some 21, .bin .gtr (.t 20) (.k (.one (.iv (.int .i64 80)))), [], none⟩])
  (.cond (.t 21) (.seq (.region false [⟨some 2, .mov none (.k (.one (.iv (.bool false)))), [], none⟩])
  (.ret)) (.skip))))
  (.seq (.region false [⟨some 22, .mov none (.t 6), [], none⟩,
    ⟨some 23, .blt .len [.t 22], [], none⟩,
    ⟨some 24, .mov none (.k (.one (.iv (.int .i64 0)))), [], none⟩])
  (.block 2 (.loop false [3, 4, 9, 10, 11, 22, 23, 24] l9_1))))))
  (.region false [⟨some 46, .bin .add (.t 11) (.k (.one (.iv (.int .i64 1)))), [], none⟩,
    ⟨some 11, .mov none (.t 46), [], none⟩])))
def b9 : VCode := .seq (.region false [⟨some 2, .mov none (.k (.one (.iv (.bool false)))), [], none⟩])
  (.seq (.region false [⟨some 3, .mov none (.k (.one (.iv (.int .i64 0)))), [], none⟩,
    ⟨some 4, .mov none (.k (.one (.iv (.int .i64 0)))), [], none⟩])
  (.seq (.seq (.region false [⟨some 9, .mov none (.t 0), [], none⟩,
    ⟨some 10, .blt .len [.t 9], [], none⟩,
    ⟨some 11, .mov none (.k (.one (.iv (.int .i64 0)))), [], none⟩])
  (.block 0 (.loop false [3, 4, 9, 10, 11] l9_0)))
  (.seq (.region false [⟨some 2, .mov none (.k (.one (.iv (.bool true)))), [], none⟩])
  (.ret))))
def v9 : VFn := ⟨1, 47, [.t 2], b9⟩

theorem c9 : chkFn Try.prog 9 v9 = true := by kernel_rfl

/- scholia/scholialaw12.awake -/
def b10 : VCode := .seq (.region false [⟨some 0, .mov none (.k (.one (.iv (.bool false)))), [], none⟩])
  (.seq (.region false [⟨some 8, .build [.iv (.int .i64 0), .iv (.int .i64 0)] [(0, 1, .k (.one (.iv (.int .i64 0)))), (1, 1, .k (.one (.iv (.int .i64 1))))], [], none⟩,
    ⟨some 1, .new [.iv (.int .i64 0), .iv (.int .i64 0)], [], none⟩,
    ⟨none, .store 2 (.t 1) (.t 8), [], none⟩])
  (.seq (.region false [⟨some 10, .build [.iv (.arr 64 (List.replicate 64 (.int .i64 0))), .iv (.sl true 0 [])] [], [], none⟩,
    ⟨some 11, .load true 2 (.t 1), [], none⟩,
    ⟨some 12, .build [.iv (.int .i64 0), .iv (.int .i64 0), .iv (.int .i64 0), .iv (.int .i64 0), .iv (.str ⟨#[]⟩), .iv (.int .i64 0), .iv (.str ⟨#[]⟩), .iv (.sl true 0 [])] [(0, 2, .t 11), (2, 1, .k (.one (.iv (.int .i64 1)))), (3, 1, .k (.one (.iv (.int .i64 1)))), (4, 1, .k (.one (.iv (.str ⟨#[97]⟩)))), (5, 1, .k (.one (.iv (.int .i64 1)))), (6, 1, .k (.one (.iv (.str ⟨#[120]⟩))))], [], none⟩,
    ⟨some 13, .call 19 [(false, .t 10), (false, .t 12)], [], none⟩,
    ⟨some 9, .mov none (.t 13), [], none⟩,
    ⟨some 14, .ext 0 (.t 9), [], none⟩,
    ⟨some 15, .ext 1 (.t 9), [], none⟩,
    ⟨some 2, .new [.iv (.arr 64 (List.replicate 64 (.int .i64 0))), .iv (.sl true 0 [])], [], none⟩,
    ⟨none, .store 65 (.t 2) (.t 14), [], none⟩,
    ⟨some 3, .mov none (.t 15), [], none⟩])
  (.seq (.region false [⟨some 17, .load true 65 (.t 2), [], none⟩,
    ⟨some 18, .call 36 [(false, .t 17), (false, .k (.one (.iv (.str ⟨#[97]⟩))))], [], none⟩,
    ⟨some 16, .mov none (.t 18), [], none⟩,
    ⟨some 19, .ext 0 (.t 16), [], none⟩,
    ⟨some 20, .ext 1 (.t 16), [], none⟩,
    ⟨some 4, .new [.iv (.str ⟨#[]⟩), .iv (.arr 4 (List.replicate 4 (.str ⟨#[]⟩)))], [], none⟩,
    ⟨none, .store 5 (.t 4) (.t 19), [], none⟩,
    ⟨some 5, .mov none (.t 20), [], none⟩])
  (.seq (.region false [⟨some 22, .load true 65 (.t 2), [], none⟩,
    ⟨some 23, .build [.iv (.int .i64 0), .iv (.int .i64 0)] [(0, 1, .k (.one (.iv (.int .i64 0)))), (1, 1, .k (.one (.iv (.int .i64 2))))], [], none⟩,
    ⟨some 24, .load true 2 (.t 1), [], none⟩,
    ⟨some 25, .mks false 2 [.t 24], [], none⟩,
    ⟨some 26, .build [.iv (.int .i64 0), .iv (.int .i64 0), .iv (.int .i64 0), .iv (.int .i64 0), .iv (.str ⟨#[]⟩), .iv (.int .i64 0), .iv (.str ⟨#[]⟩), .iv (.sl true 0 [])] [(0, 2, .t 23), (2, 1, .k (.one (.iv (.int .i64 2)))), (3, 1, .k (.one (.iv (.int .i64 2)))), (4, 1, .k (.one (.iv (.str ⟨#[97]⟩)))), (7, 1, .t 25)], [], none⟩,
    ⟨some 27, .call 19 [(false, .t 22), (false, .t 26)], [], none⟩,
    ⟨some 21, .mov none (.t 27), [], none⟩,
    ⟨some 28, .ext 0 (.t 21), [], none⟩,
    ⟨some 29, .ext 1 (.t 21), [], none⟩,
    ⟨some 6, .new [.iv (.arr 64 (List.replicate 64 (.int .i64 0))), .iv (.sl true 0 [])], [], none⟩,
    ⟨none, .store 65 (.t 6) (.t 28), [], none⟩,
    ⟨some 7, .mov none (.t 29), [], none⟩])
  (.seq (.region false [⟨some 30, .mov none (.t 3), [], none⟩,
    ⟨some 31, .bin .eql (.t 30) (.k (.one (.iv (.int .i64 0)))), [], none⟩,
    ⟨some 32, .mov none (.t 31), [], none⟩,
    ⟨some 33, .mov none (.t 7), [], some (32, true)⟩,
    ⟨some 34, .bin .eql (.t 33) (.k (.one (.iv (.int .i64 0)))), [], some (32, true)⟩,
    ⟨some 35, .pick (.t 32) (.t 34) (.k (.one (.iv (.bool false)))), [], none⟩,
    ⟨some 36, .mov none (.t 35), [], none⟩,
    ⟨some 37, .mov none (.t 5), [], some (36, true)⟩,
    ⟨some 38, .pick (.t 36) (.t 37) (.k (.one (.iv (.bool false)))), [], none⟩,
    ⟨some 39, .mov none (.t 38), [], none⟩,
    ⟨some 40, .fad 1 (.t 4), [], some (39, true)⟩,
    ⟨some 41, .ixA 4 1 (.t 40) (.k (.one (.iv (.int .i64 0)))), [], some (39, true)⟩,
    ⟨some 42, .load false 1 (.t 41), [], some (39, true)⟩,
    ⟨some 43, .bin .eql (.t 42) (.k (.one (.iv (.str ⟨#[120]⟩)))), [], some (39, true)⟩,
    ⟨some 44, .pick (.t 39) (.t 43) (.k (.one (.iv (.bool false)))), [], none⟩,
    ⟨some 45, .mov none (.t 44), [], none⟩,
    ⟨some 46, .fad 64 (.t 6), [], some (45, true)⟩,
    ⟨some 47, .load false 1 (.t 46), [], some (45, true)⟩,
    ⟨some 48, .blt .len [.t 47], [], some (45, true)⟩,
    ⟨some 49, .bin .eql (.t 48) (.k (.one (.iv (.int .i64 0)))), [], some (45, true)⟩,
    ⟨some 50, .pick (.t 45) (.t 49) (.k (.one (.iv (.bool false)))), [], none⟩,
    ⟨some 51, .mov none (.t 50), [], none⟩,
    ⟨some 52, .fad 0 (.t 6), [], some (51, true)⟩,
    ⟨some 53, .ixA 64 1 (.t 52) (.k (.one (.iv (.int .i64 0)))), [], some (51, true)⟩,
    ⟨some 54, .load false 1 (.t 53), [], some (51, true)⟩,
    ⟨some 55, .bin .eql (.t 54) (.k (.one (.iv (.int .i64 2)))), [], some (51, true)⟩,
    ⟨some 56, .pick (.t 51) (.t 55) (.k (.one (.iv (.bool false)))), [], none⟩,
    ⟨some 0, .mov none (.t 56), [], none⟩])
  (.ret))))))
def v10 : VFn := ⟨0, 57, [.t 0], b10⟩

theorem c10 : chkFn Try.prog 10 v10 = true := by kernel_rfl

/- scholia/docs.Name -/
def l11_0 : VCode := .seq (.region false [⟨some 16, .bin .lss (.t 15) (.t 14), [], none⟩])
  (.seq (.cond (.t 16) (.skip) (.exit 0))
  (.seq (.block 1 (.seq (.region false [⟨some 17, .ixS 1 (.t 13) (.t 15), [], none⟩,
    ⟨some 18, .load false 1 (.t 17), [], none⟩,
    ⟨some 4, .mov none (.t 18), [], none⟩])
  (.seq (.region false [⟨some 19, .mov none (.t 4), [], none⟩,
    ⟨some 20, .bin .lss (.t 19) (.k (.one (.iv (.int .u8 97)))), [], none⟩,
    ⟨some 21, .mov none (.t 20), [], none⟩,
    ⟨some 22, .mov none (.t 4), [], some (21, false)⟩,
    ⟨some 23, .bin .gtr (.t 22) (.k (.one (.iv (.int .u8 122)))), [], some (21, false)⟩,
    ⟨some 24, .pick (.t 21) (.k (.one (.iv (.bool true)))) (.t 23), [], none⟩,
    ⟨some 25, .mov none (.t 24), [], none⟩,
    ⟨some 26, .mov none (.t 4), [], some (25, true)⟩,
    ⟨some 27, .bin .lss (.t 26) (.k (.one (.iv (.int .u8 48)))), [], some (25, true)⟩,
    ⟨some 28, .mov none (.t 27), [], some (25, true)⟩,
    ⟨some 29, .mov none (.t 4), [], some (28, false)⟩,
    ⟨some 30, .bin .gtr (.t 29) (.k (.one (.iv (.int .u8 57)))), [], some (28, false)⟩,
    ⟨some 31, .pick (.t 28) (.k (.one (.iv (.bool true)))) (.t 30), [], some (25, true)⟩,
    ⟨some 32, .pick (.t 25) (.t 31) (.k (.one (.iv (.bool false)))), [], none⟩,
    ⟨some 33, .mov none (.t 32), [], none⟩,
    ⟨some 34, .mov none (.t 4), [], some (33, true)⟩,
    ⟨some 35, .bin .neq (.t 34) (.k (.one (.iv (.int .u8 45)))), [], some (33, true)⟩,
    ⟨some 36, .pick (.t 33) (.t 35) (.k (.one (.iv (.bool false)))), [], none⟩])
  (.cond (.t 36) (.seq (.region false [⟨some 2, .mov none (.k (.one (.iv (.bool false)))), [], none⟩])
  (.ret)) (.skip)))))
  (.region false [⟨some 37, .bin .add (.t 15) (.k (.one (.iv (.int .i64 1)))), [], none⟩,
    ⟨some 15, .mov none (.t 37), [], none⟩])))
def b11 : VCode := .seq (.region false [⟨some 2, .mov none (.k (.one (.iv (.bool false)))), [], none⟩])
  (.seq (.seq (.region false [⟨some 5, .mov none (.t 0), [], none⟩,
    ⟨some 6, .bin .eql (.t 5) (.k (.one (.iv (.str ⟨#[]⟩)))), [], none⟩,
    ⟨some 7, .mov none (.t 6), [], none⟩,
    ⟨some 8, .mov none (.t 0), [], some (7, false)⟩,
    ⟨some 9, .blt .lenS [.t 8], [], some (7, false)⟩,
    ⟨some 10, .bin .gtr (.t 9) (.k (.one (.iv (.int .i64 12)))), [], some (7, false)⟩,
    ⟨some 11, .pick (.t 7) (.k (.one (.iv (.bool true)))) (.t 10), [], none⟩])
  (.cond (.t 11) (.seq (.region false [⟨some 2, .mov none (.k (.one (.iv (.bool false)))), [], none⟩])
  (.ret)) (.skip)))
  (.seq (.seq (.region false [⟨some 12, .mov none (.t 0), [], none⟩,
    ⟨some 13, .s2b (.t 12), [], none⟩,
    ⟨some 14, .blt .len [.t 13], [], none⟩,
    ⟨some 15, .mov none (.k (.one (.iv (.int .i64 0)))), [], none⟩])
  (.block 0 (.loop false [13, 14, 15] l11_0)))
  (.seq (.region false [⟨some 2, .mov none (.k (.one (.iv (.bool true)))), [], none⟩])
  (.ret))))
def v11 : VFn := ⟨1, 38, [.t 2], b11⟩

theorem c11 : chkFn Try.prog 11 v11 = true := by kernel_rfl

/- scholia/scholiaref12.Name -/
def l12_0 : VCode := .seq (.region false [⟨some 16, .bin .lss (.t 15) (.t 14), [], none⟩])
  (.seq (.cond (.t 16) (.skip) (.exit 0))
  (.seq (.block 1 (.seq (.region false [⟨some 17, .mov none (.t 15), [], none⟩,
    ⟨some 3, .mov none (.t 17), [], none⟩])
  (.seq (.region false [⟨some 18, .mov none (.t 0), [], none⟩,
    ⟨some 19, .mov none (.t 3), [], none⟩,
    ⟨some 20, .ixT (.t 18) (.t 19), [], none⟩,
    ⟨some 4, .mov none (.t 20), [], none⟩])
  (.seq (.region false [⟨some 21, .mov none (.t 4), [], none⟩,
    ⟨some 22, .bin .geq (.t 21) (.k (.one (.iv (.int .u8 97)))), [], none⟩,
    ⟨some 23, .mov none (.t 22), [], none⟩,
    ⟨some 24, .mov none (.t 4), [], some (23, true)⟩,
    ⟨some 25, .bin .leq (.t 24) (.k (.one (.iv (.int .u8 122)))), [], some (23, true)⟩,
    ⟨some 26, .pick (.t 23) (.t 25) (.k (.one (.iv (.bool false)))), [], none⟩,
    ⟨some 27, .mov none (.t 26), [], none⟩,
    ⟨some 28, .mov none (.t 4), [], some (27, false)⟩,
    ⟨some 29, .bin .geq (.t 28) (.k (.one (.iv (.int .u8 48)))), [], some (27, false)⟩,
    ⟨some 30, .mov none (.t 29), [], some (27, false)⟩,
    ⟨some 31, .mov none (.t 4), [], some (30, true)⟩,
    ⟨some 32, .bin .leq (.t 31) (.k (.one (.iv (.int .u8 57)))), [], some (30, true)⟩,
    ⟨some 33, .pick (.t 30) (.t 32) (.k (.one (.iv (.bool false)))), [], some (27, false)⟩,
    ⟨some 34, .pick (.t 27) (.k (.one (.iv (.bool true)))) (.t 33), [], none⟩,
    ⟨some 35, .mov none (.t 34), [], none⟩,
    ⟨some 36, .mov none (.t 4), [], some (35, false)⟩,
    ⟨some 37, .bin .eql (.t 36) (.k (.one (.iv (.int .u8 45)))), [], some (35, false)⟩,
    ⟨some 38, .pick (.t 35) (.k (.one (.iv (.bool true)))) (.t 37), [], none⟩,
    ⟨some 39, .un .not (.t 38), [], none⟩])
  (.cond (.t 39) (.seq (.region false [⟨some 2, .mov none (.k (.one (.iv (.bool false)))), [], none⟩])
  (.ret)) (.skip))))))
  (.region false [⟨some 40, .bin .add (.t 15) (.k (.one (.iv (.int .i64 1)))), [], none⟩,
    ⟨some 15, .mov none (.t 40), [], none⟩])))
def b12 : VCode := .seq (.region false [⟨some 2, .mov none (.k (.one (.iv (.bool false)))), [], none⟩])
  (.seq (.seq (.region false [⟨some 5, .mov none (.t 0), [], none⟩,
    ⟨some 6, .blt .lenS [.t 5], [], none⟩,
    ⟨some 7, .bin .lss (.t 6) (.k (.one (.iv (.int .i64 1)))), [], none⟩,
    ⟨some 8, .mov none (.t 7), [], none⟩,
    ⟨some 9, .mov none (.t 0), [], some (8, false)⟩,
    ⟨some 10, .blt .lenS [.t 9], [], some (8, false)⟩,
    ⟨some 11, .bin .gtr (.t 10) (.k (.one (.iv (.int .i64 12)))), [], some (8, false)⟩,
    ⟨some 12, .pick (.t 8) (.k (.one (.iv (.bool true)))) (.t 11), [], none⟩])
  (.cond (.t 12) (.seq (.region false [⟨some 2, .mov none (.k (.one (.iv (.bool false)))), [], none⟩])
  (.ret)) (.skip)))
  (.seq (.seq (.region false [⟨some 13, .mov none (.t 0), [], none⟩,
    ⟨some 14, .blt .lenS [.t 13], [], none⟩,
    ⟨some 15, .mov none (.k (.one (.iv (.int .i64 0)))), [], none⟩])
  (.block 0 (.loop false [0, 14, 15] l12_0)))
  (.seq (.region false [⟨some 2, .mov none (.k (.one (.iv (.bool true)))), [], none⟩])
  (.ret))))
def v12 : VFn := ⟨1, 41, [.t 2], b12⟩

theorem c12 : chkFn Try.prog 12 v12 = true := by kernel_rfl

/- scholia/docs.Text -/
def b13 : VCode := .seq (.region false [⟨some 4, .mov none (.k (.one (.iv (.int .i64 0)))), [], none⟩])
  (.seq (.block 0 (.seq (.region false [⟨some 6, .mov none (.t 0), [], none⟩,
    ⟨some 7, .bin .lss (.t 6) (.k (.one (.iv (.int .i64 0)))), [], none⟩,
    ⟨some 8, .mov none (.t 7), [], none⟩,
    ⟨some 9, .mov none (.t 0), [], some (8, false)⟩,
    ⟨some 10, .bin .gtr (.t 9) (.k (.one (.iv (.int .i64 4)))), [], some (8, false)⟩,
    ⟨some 11, .pick (.t 8) (.k (.one (.iv (.bool true)))) (.t 10), [], none⟩,
    ⟨some 12, .mov none (.t 11), [], none⟩,
    ⟨some 13, .mov none (.t 0), [], some (12, false)⟩,
    ⟨some 14, .bin .eql (.t 13) (.k (.one (.iv (.int .i64 0)))), [], some (12, false)⟩,
    ⟨some 15, .mov none (.t 14), [], some (12, false)⟩,
    ⟨some 16, .mov none (.t 1), [], some (15, true)⟩,
    ⟨some 17, .bin .neq (.t 16) (.k (.one (.iv (.str ⟨#[]⟩)))), [], some (15, true)⟩,
    ⟨some 18, .pick (.t 15) (.t 17) (.k (.one (.iv (.bool false)))), [], some (12, false)⟩,
    ⟨some 19, .pick (.t 12) (.k (.one (.iv (.bool true)))) (.t 18), [], none⟩,
    ⟨some 5, .mov none (.t 19), [], none⟩])
  (.cond (.t 5) (.seq (.region false [⟨some 4, .mov none (.k (.one (.iv (.int .i64 1)))), [], none⟩])
  (.ret)) (.seq (.region false [⟨some 21, .mov none (.t 1), [], none⟩,
    ⟨some 22, .blt .lenS [.t 21], [], none⟩,
    ⟨some 23, .bin .gtr (.t 22) (.k (.one (.iv (.int .i64 160)))), [], none⟩,
    ⟨some 20, .mov none (.t 23), [], none⟩])
  (.cond (.t 20) (.seq (.region false [⟨some 4, .mov none (.k (.one (.iv (.int .i64 5)))), [], none⟩])
  (.ret)) (.seq (.region false [⟨some 25, .mov none (.t 1), [], none⟩,
    ⟨some 26, .call 37 [(false, .t 25)], [], none⟩,
    ⟨some 27, .un .not (.t 26), [], none⟩,
    ⟨some 24, .mov none (.t 27), [], none⟩])
  (.cond (.t 24) (.seq (.region false [⟨some 4, .mov none (.k (.one (.iv (.int .i64 7)))), [], none⟩])
  (.ret)) (.skip))))))))
  (.seq (.region false [⟨some 4, .mov none (.k (.one (.iv (.int .i64 0)))), [], none⟩])
  (.ret)))
def v13 : VFn := ⟨2, 28, [.t 4], b13⟩

theorem c13 : chkFn Try.prog 13 v13 = true := by kernel_rfl

/- scholia/scholiaref12.Text -/
def b14 : VCode := .seq (.region false [⟨some 4, .mov none (.k (.one (.iv (.int .i64 0)))), [], none⟩])
  (.seq (.seq (.region false [⟨some 5, .mov none (.t 0), [], none⟩,
    ⟨some 6, .bin .lss (.t 5) (.k (.one (.iv (.int .i64 0)))), [], none⟩,
    ⟨some 7, .mov none (.t 6), [], none⟩,
    ⟨some 8, .mov none (.t 0), [], some (7, false)⟩,
    ⟨some 9, .bin .gtr (.t 8) (.k (.one (.iv (.int .i64 4)))), [], some (7, false)⟩,
    ⟨some 10, .pick (.t 7) (.k (.one (.iv (.bool true)))) (.t 9), [], none⟩,
    ⟨some 11, .mov none (.t 10), [], none⟩,
    ⟨some 12, .mov none (.t 0), [], some (11, false)⟩,
    ⟨some 13, .bin .eql (.t 12) (.k (.one (.iv (.int .i64 0)))), [], some (11, false)⟩,
    ⟨some 14, .mov none (.t 13), [], some (11, false)⟩,
    ⟨some 15, .mov none (.t 1), [], some (14, true)⟩,
    ⟨some 16, .blt .lenS [.t 15], [], some (14, true)⟩,
    ⟨some 17, .bin .gtr (.t 16) (.k (.one (.iv (.int .i64 0)))), [], some (14, true)⟩,
    ⟨some 18, .pick (.t 14) (.t 17) (.k (.one (.iv (.bool false)))), [], some (11, false)⟩,
    ⟨some 19, .pick (.t 11) (.k (.one (.iv (.bool true)))) (.t 18), [], none⟩])
  (.cond (.t 19) (.seq (.region false [⟨some 4, .mov none (.k (.one (.iv (.int .i64 1)))), [], none⟩])
  (.ret)) (.skip)))
  (.seq (.seq (.region false [⟨some 20, .mov none (.t 1), [], none⟩,
    ⟨some 21, .blt .lenS [.t 20], [], none⟩,
    ⟨some 22, .bin .gtr (.t 21) (.k (.one (.iv (.int .i64 160)))), [], none⟩])
  (.cond (.t 22) (.seq (.region false [⟨some 4, .mov none (.k (.one (.iv (.int .i64 5)))), [], none⟩])
  (.ret)) (.skip)))
  (.seq (.seq (.region false [⟨some 23, .mov none (.t 1), [], none⟩,
    ⟨some 24, .call 38 [(false, .t 23)], [], none⟩,
    ⟨some 25, .un .not (.t 24), [], none⟩])
  (.cond (.t 25) (.seq (.region false [⟨some 4, .mov none (.k (.one (.iv (.int .i64 7)))), [], none⟩])
  (.ret)) (.skip)))
  (.seq (.region false [⟨some 4, .mov none (.k (.one (.iv (.int .i64 0)))), [], none⟩])
  (.ret)))))
def v14 : VFn := ⟨2, 26, [.t 4], b14⟩

theorem c14 : chkFn Try.prog 14 v14 = true := by kernel_rfl

/- scholia/docs.Check -/
def b15 : VCode := .seq (.region false [⟨some 1, .box (.t 0), [], none⟩,
    ⟨some 2, .mov none (.k (.one (.iv (.int .i64 0)))), [], none⟩])
  (.seq (.block 0 (.seq (.region false [⟨some 4, .fad 0 (.t 1), [], none⟩,
    ⟨some 5, .load true 2 (.t 4), [], none⟩,
    ⟨some 6, .call 39 [(false, .t 5)], [], none⟩,
    ⟨some 7, .un .not (.t 6), [], none⟩,
    ⟨some 8, .mov none (.t 7), [], none⟩,
    ⟨some 9, .fad 2 (.t 1), [], some (8, false)⟩,
    ⟨some 10, .load false 1 (.t 9), [], some (8, false)⟩,
    ⟨some 11, .bin .lss (.t 10) (.k (.one (.iv (.int .i64 1)))), [], some (8, false)⟩,
    ⟨some 12, .pick (.t 8) (.k (.one (.iv (.bool true)))) (.t 11), [], none⟩,
    ⟨some 13, .mov none (.t 12), [], none⟩,
    ⟨some 14, .fad 2 (.t 1), [], some (13, false)⟩,
    ⟨some 15, .load false 1 (.t 14), [], some (13, false)⟩,
    ⟨some 16, .bin .gtr (.t 15) (.k (.one (.iv (.int .i64 1099511627776)))), [], some (13, false)⟩,
    ⟨some 17, .pick (.t 13) (.k (.one (.iv (.bool true)))) (.t 16), [], none⟩,
    ⟨some 18, .mov none (.t 17), [], none⟩,
    ⟨some 19, .fad 4 (.t 1), [], some (18, false)⟩,
    ⟨some 20, .load false 1 (.t 19), [], some (18, false)⟩,
    ⟨some 21, .call 11 [(false, .t 20)], [], some (18, false)⟩,
    ⟨some 22, .un .not (.t 21), [], some (18, false)⟩,
    ⟨some 23, .pick (.t 18) (.k (.one (.iv (.bool true)))) (.t 22), [], none⟩,
    ⟨some 24, .mov none (.t 23), [], none⟩,
    ⟨some 25, .fad 0 (.t 1), [], some (24, false)⟩,
    ⟨some 26, .load true 2 (.t 25), [], some (24, false)⟩,
    ⟨some 27, .fad 7 (.t 1), [], some (24, false)⟩,
    ⟨some 28, .load false 1 (.t 27), [], some (24, false)⟩,
    ⟨some 29, .call 40 [(false, .t 26), (false, .t 28)], [], some (24, false)⟩,
    ⟨some 30, .un .not (.t 29), [], some (24, false)⟩,
    ⟨some 31, .pick (.t 24) (.k (.one (.iv (.bool true)))) (.t 30), [], none⟩,
    ⟨some 3, .mov none (.t 31), [], none⟩])
  (.cond (.t 3) (.seq (.region false [⟨some 2, .mov none (.k (.one (.iv (.int .i64 1)))), [], none⟩])
  (.ret)) (.seq (.region false [⟨some 33, .fad 3 (.t 1), [], none⟩,
    ⟨some 34, .load false 1 (.t 33), [], none⟩,
    ⟨some 35, .bin .eql (.t 34) (.k (.one (.iv (.int .i64 2)))), [], none⟩,
    ⟨some 36, .mov none (.t 35), [], none⟩,
    ⟨some 37, .fad 5 (.t 1), [], some (36, true)⟩,
    ⟨some 38, .load false 1 (.t 37), [], some (36, true)⟩,
    ⟨some 39, .bin .eql (.t 38) (.k (.one (.iv (.int .i64 0)))), [], some (36, true)⟩,
    ⟨some 40, .pick (.t 36) (.t 39) (.k (.one (.iv (.bool false)))), [], none⟩,
    ⟨some 41, .mov none (.t 40), [], none⟩,
    ⟨some 42, .fad 6 (.t 1), [], some (41, true)⟩,
    ⟨some 43, .load false 1 (.t 42), [], some (41, true)⟩,
    ⟨some 44, .bin .eql (.t 43) (.k (.one (.iv (.str ⟨#[]⟩)))), [], some (41, true)⟩,
    ⟨some 45, .pick (.t 41) (.t 44) (.k (.one (.iv (.bool false)))), [], none⟩,
    ⟨some 32, .mov none (.t 45), [], none⟩])
  (.cond (.t 32) (.seq (.region false [⟨some 2, .mov none (.k (.one (.iv (.int .i64 0)))), [], none⟩])
  (.ret)) (.seq (.region false [⟨some 47, .fad 3 (.t 1), [], none⟩,
    ⟨some 48, .load false 1 (.t 47), [], none⟩,
    ⟨some 49, .bin .neq (.t 48) (.k (.one (.iv (.int .i64 1)))), [], none⟩,
    ⟨some 46, .mov none (.t 49), [], none⟩])
  (.cond (.t 46) (.seq (.region false [⟨some 2, .mov none (.k (.one (.iv (.int .i64 1)))), [], none⟩])
  (.ret)) (.skip))))))))
  (.seq (.region false [⟨some 50, .fad 5 (.t 1), [], none⟩,
    ⟨some 51, .load false 1 (.t 50), [], none⟩,
    ⟨some 52, .fad 6 (.t 1), [], none⟩,
    ⟨some 53, .load false 1 (.t 52), [], none⟩,
    ⟨some 54, .call 13 [(false, .t 51), (false, .t 53)], [], none⟩,
    ⟨some 2, .mov none (.t 54), [], none⟩])
  (.ret)))
def v15 : VFn := ⟨1, 55, [.t 2], b15⟩

theorem c15 : chkFn Try.prog 15 v15 = true := by kernel_rfl

/- scholia/scholiaref12.Check -/
def l16_0 : VCode := .seq (.region false [⟨some 35, .bin .lss (.t 34) (.t 33), [], none⟩])
  (.seq (.cond (.t 35) (.skip) (.exit 0))
  (.seq (.block 1 (.seq (.region false [⟨some 36, .mov none (.t 34), [], none⟩,
    ⟨some 37, .ixS 2 (.t 32) (.t 34), [], none⟩,
    ⟨some 38, .load true 2 (.t 37), [], none⟩,
    ⟨some 4, .new [.iv (.int .i64 0), .iv (.int .i64 0)], [], none⟩,
    ⟨some 3, .mov none (.t 36), [], none⟩,
    ⟨none, .store 2 (.t 4) (.t 38), [], none⟩])
  (.seq (.region true [⟨some 39, .load true 2 (.t 4), [], none⟩,
    ⟨some 40, .call 41 [(false, .t 39)], [0], none⟩,
    ⟨some 41, .un .not (.t 40), [1], none⟩,
    ⟨some 42, .mov none (.t 41), [2], none⟩,
    ⟨some 43, .load true 2 (.t 4), [3], some (42, false)⟩,
    ⟨some 44, .fad 0 (.t 1), [3], some (42, false)⟩,
    ⟨some 45, .load true 2 (.t 44), [5], some (42, false)⟩,
    ⟨some 46, .eqa .eql ([.int] ++ [.int]) (.t 43) (.t 45), [6, 4], some (42, false)⟩,
    ⟨some 47, .pick (.t 42) (.k (.one (.iv (.bool true)))) (.t 46), [7], none⟩,
    ⟨some 48, .mov none (.t 47), [8], none⟩,
    ⟨some 49, .mov none (.t 3), [9], some (48, false)⟩,
    ⟨some 50, .bin .gtr (.t 49) (.k (.one (.iv (.int .i64 0)))), [10], some (48, false)⟩,
    ⟨some 51, .mov none (.t 50), [11], some (48, false)⟩,
    ⟨some 52, .fad 7 (.t 1), [12], some (51, true)⟩,
    ⟨some 53, .load false 1 (.t 52), [13], some (51, true)⟩,
    ⟨some 54, .mov none (.t 3), [12], some (51, true)⟩,
    ⟨some 55, .bin .sub (.t 54) (.k (.one (.iv (.int .i64 1)))), [15], some (51, true)⟩,
    ⟨some 56, .ixS 2 (.t 53) (.t 55), [16, 14], some (51, true)⟩,
    ⟨some 57, .load true 2 (.t 56), [17], some (51, true)⟩,
    ⟨some 58, .load true 2 (.t 4), [12], some (51, true)⟩,
    ⟨some 59, .call 42 [(false, .t 57), (false, .t 58)], [19, 18], some (51, true)⟩,
    ⟨some 60, .un .not (.t 59), [20], some (51, true)⟩,
    ⟨some 61, .pick (.t 51) (.t 60) (.k (.one (.iv (.bool false)))), [21], some (48, false)⟩,
    ⟨some 62, .pick (.t 48) (.k (.one (.iv (.bool true)))) (.t 61), [22], none⟩])
  (.cond (.t 62) (.seq (.region false [⟨some 2, .mov none (.k (.one (.iv (.int .i64 1)))), [], none⟩])
  (.ret)) (.skip)))))
  (.region false [⟨some 63, .bin .add (.t 34) (.k (.one (.iv (.int .i64 1)))), [], none⟩,
    ⟨some 34, .mov none (.t 63), [], none⟩])))
def b16 : VCode := .seq (.region false [⟨some 1, .box (.t 0), [], none⟩,
    ⟨some 2, .mov none (.k (.one (.iv (.int .i64 0)))), [], none⟩])
  (.seq (.seq (.region false [⟨some 5, .fad 0 (.t 1), [], none⟩,
    ⟨some 6, .load true 2 (.t 5), [], none⟩,
    ⟨some 7, .call 41 [(false, .t 6)], [], none⟩,
    ⟨some 8, .un .not (.t 7), [], none⟩,
    ⟨some 9, .mov none (.t 8), [], none⟩,
    ⟨some 10, .fad 2 (.t 1), [], some (9, false)⟩,
    ⟨some 11, .load false 1 (.t 10), [], some (9, false)⟩,
    ⟨some 12, .bin .lss (.t 11) (.k (.one (.iv (.int .i64 1)))), [], some (9, false)⟩,
    ⟨some 13, .pick (.t 9) (.k (.one (.iv (.bool true)))) (.t 12), [], none⟩,
    ⟨some 14, .mov none (.t 13), [], none⟩,
    ⟨some 15, .fad 2 (.t 1), [], some (14, false)⟩,
    ⟨some 16, .load false 1 (.t 15), [], some (14, false)⟩,
    ⟨some 17, .bin .gtr (.t 16) (.k (.one (.iv (.int .i64 1099511627776)))), [], some (14, false)⟩,
    ⟨some 18, .pick (.t 14) (.k (.one (.iv (.bool true)))) (.t 17), [], none⟩,
    ⟨some 19, .mov none (.t 18), [], none⟩,
    ⟨some 20, .fad 4 (.t 1), [], some (19, false)⟩,
    ⟨some 21, .load false 1 (.t 20), [], some (19, false)⟩,
    ⟨some 22, .call 12 [(false, .t 21)], [], some (19, false)⟩,
    ⟨some 23, .un .not (.t 22), [], some (19, false)⟩,
    ⟨some 24, .pick (.t 19) (.k (.one (.iv (.bool true)))) (.t 23), [], none⟩,
    ⟨some 25, .mov none (.t 24), [], none⟩,
    ⟨some 26, .fad 7 (.t 1), [], some (25, false)⟩,
    ⟨some 27, .load false 1 (.t 26), [], some (25, false)⟩,
    ⟨some 28, .blt .len [.t 27], [], some (25, false)⟩,
    ⟨some 29, .bin .gtr (.t 28) (.k (.one (.iv (.int .i64 120)))), [], some (25, false)⟩,
    ⟨some 30, .pick (.t 25) (.k (.one (.iv (.bool true)))) (.t 29), [], none⟩])
  (.cond (.t 30) (.seq (.region false [⟨some 2, .mov none (.k (.one (.iv (.int .i64 1)))), [], none⟩])
  (.ret)) (.skip)))
  (.seq (.seq (.region false [⟨some 31, .fad 7 (.t 1), [], none⟩,
    ⟨some 32, .load false 1 (.t 31), [], none⟩,
    ⟨some 33, .blt .len [.t 32], [], none⟩,
    ⟨some 34, .mov none (.k (.one (.iv (.int .i64 0)))), [], none⟩])
  (.block 0 (.loop false [1, 32, 33, 34] l16_0)))
  (.seq (.seq (.region false [⟨some 64, .fad 3 (.t 1), [], none⟩,
    ⟨some 65, .load false 1 (.t 64), [], none⟩,
    ⟨some 66, .bin .eql (.t 65) (.k (.one (.iv (.int .i64 2)))), [], none⟩,
    ⟨some 67, .mov none (.t 66), [], none⟩,
    ⟨some 68, .fad 5 (.t 1), [], some (67, true)⟩,
    ⟨some 69, .load false 1 (.t 68), [], some (67, true)⟩,
    ⟨some 70, .bin .eql (.t 69) (.k (.one (.iv (.int .i64 0)))), [], some (67, true)⟩,
    ⟨some 71, .pick (.t 67) (.t 70) (.k (.one (.iv (.bool false)))), [], none⟩,
    ⟨some 72, .mov none (.t 71), [], none⟩,
    ⟨some 73, .fad 6 (.t 1), [], some (72, true)⟩,
    ⟨some 74, .load false 1 (.t 73), [], some (72, true)⟩,
    ⟨some 75, .bin .eql (.t 74) (.k (.one (.iv (.str ⟨#[]⟩)))), [], some (72, true)⟩,
    ⟨some 76, .pick (.t 72) (.t 75) (.k (.one (.iv (.bool false)))), [], none⟩])
  (.cond (.t 76) (.seq (.region false [⟨some 2, .mov none (.k (.one (.iv (.int .i64 0)))), [], none⟩])
  (.ret)) (.skip)))
  (.seq (.seq (.region false [⟨some 77, .fad 3 (.t 1), [], none⟩,
    ⟨some 78, .load false 1 (.t 77), [], none⟩,
    ⟨some 79, .bin .neq (.t 78) (.k (.one (.iv (.int .i64 1)))), [], none⟩])
  (.cond (.t 79) (.seq (.region false [⟨some 2, .mov none (.k (.one (.iv (.int .i64 1)))), [], none⟩])
  (.ret)) (.skip)))
  (.seq (.region false [⟨some 80, .fad 5 (.t 1), [], none⟩,
    ⟨some 81, .load false 1 (.t 80), [], none⟩,
    ⟨some 82, .fad 6 (.t 1), [], none⟩,
    ⟨some 83, .load false 1 (.t 82), [], none⟩,
    ⟨some 84, .call 14 [(false, .t 81), (false, .t 83)], [], none⟩,
    ⟨some 2, .mov none (.t 84), [], none⟩])
  (.ret))))))
def v16 : VFn := ⟨1, 85, [.t 2], b16⟩

theorem c16 : chkFn Try.prog 16 v16 = true := by kernel_rfl

/- scholia/docs.Apply -/
def b19 : VCode := .seq (.region false [⟨some 2, .box (.t 0), [], none⟩,
    ⟨some 3, .box (.t 1), [], none⟩,
    ⟨some 4, .new [.iv (.arr 64 (List.replicate 64 (.int .i64 0))), .iv (.sl true 0 [])], [], none⟩,
    ⟨some 5, .mov none (.k (.one (.iv (.int .i64 0)))), [], none⟩])
  (.seq (.region true [⟨some 10, .fad 0 (.t 2), [], none⟩,
    ⟨some 11, .load true 64 (.t 10), [0], none⟩,
    ⟨some 12, .fad 64 (.t 2), [], none⟩,
    ⟨some 13, .load false 1 (.t 12), [2], none⟩,
    ⟨some 14, .call 46 [(false, .t 13)], [3], none⟩,
    ⟨some 15, .build [.iv (.arr 64 (List.replicate 64 (.int .i64 0))), .iv (.sl true 0 [])] [(0, 64, .t 11), (64, 1, .t 14)], [4, 1], none⟩,
    ⟨some 6, .new [.iv (.arr 64 (List.replicate 64 (.int .i64 0))), .iv (.sl true 0 [])], [], none⟩,
    ⟨none, .store 65 (.t 6) (.t 15), [6, 5], none⟩])
  (.seq (.seq (.region false [⟨some 16, .load true 8 (.t 3), [], none⟩,
    ⟨some 17, .call 15 [(false, .t 16)], [], none⟩,
    ⟨some 7, .mov none (.t 17), [], none⟩])
  (.seq (.region false [⟨some 18, .mov none (.t 7), [], none⟩,
    ⟨some 19, .bin .neq (.t 18) (.k (.one (.iv (.int .i64 0)))), [], none⟩])
  (.cond (.t 19) (.seq (.region false [⟨some 20, .load true 65 (.t 6), [], none⟩,
    ⟨some 21, .mov none (.t 7), [], none⟩,
    ⟨none, .store 65 (.t 4) (.t 20), [], none⟩,
    ⟨some 5, .mov none (.t 21), [], none⟩])
  (.ret)) (.skip))))
  (.seq (.seq (.region false [⟨some 22, .fad 0 (.t 2), [], none⟩,
    ⟨some 23, .load true 64 (.t 22), [], none⟩,
    ⟨some 24, .fad 0 (.t 3), [], none⟩,
    ⟨some 25, .load true 2 (.t 24), [], none⟩,
    ⟨some 26, .call 47 [(false, .t 23), (false, .t 25)], [], none⟩])
  (.cond (.t 26) (.seq (.region false [⟨some 27, .load true 65 (.t 6), [], none⟩,
    ⟨none, .store 65 (.t 4) (.t 27), [], none⟩,
    ⟨some 5, .mov none (.k (.one (.iv (.int .i64 0)))), [], none⟩])
  (.ret)) (.skip)))
  (.seq (.region false [⟨some 28, .fad 0 (.t 2), [], none⟩,
    ⟨some 29, .load true 64 (.t 28), [], none⟩,
    ⟨some 30, .fad 0 (.t 3), [], none⟩,
    ⟨some 31, .load true 2 (.t 30), [], none⟩,
    ⟨some 32, .call 48 [(false, .t 29), (false, .t 31)], [], none⟩,
    ⟨some 33, .fad 0 (.t 6), [], none⟩,
    ⟨none, .store 64 (.t 33) (.t 32), [], none⟩])
  (.seq (.region false [⟨some 34, .fad 64 (.t 6), [], none⟩,
    ⟨some 35, .load false 1 (.t 34), [], none⟩,
    ⟨some 36, .mkf 50 [.t 3], [], none⟩,
    ⟨some 37, .call 49 [(true, .t 35), (false, .t 36)], [], none⟩,
    ⟨some 38, .fad 64 (.t 6), [], none⟩,
    ⟨none, .store 1 (.t 38) (.t 37), [], none⟩])
  (.seq (.seq (.region false [⟨some 39, .fad 3 (.t 3), [], none⟩,
    ⟨some 40, .load false 1 (.t 39), [], none⟩,
    ⟨some 41, .bin .eql (.t 40) (.k (.one (.iv (.int .i64 1)))), [], none⟩])
  (.cond (.t 41) (.seq (.region true [⟨some 43, .fad 64 (.t 6), [], none⟩,
    ⟨some 44, .load false 1 (.t 43), [0], none⟩,
    ⟨some 45, .load true 8 (.t 3), [], none⟩,
    ⟨some 46, .call 53 [(false, .t 45)], [2], none⟩,
    ⟨some 47, .call 52 [(true, .t 44), (false, .t 46), (false, .k (.one (.iv (.fn 54))))], [3, 1], none⟩,
    ⟨some 42, .mov none (.t 47), [4], none⟩,
    ⟨some 48, .ext 0 (.t 42), [5], none⟩,
    ⟨some 49, .ext 1 (.t 42), [5], none⟩,
    ⟨some 8, .mov none (.t 48), [6], none⟩,
    ⟨some 9, .mov none (.t 49), [8, 7], none⟩])
  (.region true [⟨some 50, .fad 64 (.t 6), [], none⟩,
    ⟨some 51, .load false 1 (.t 50), [0], none⟩,
    ⟨some 52, .mov none (.t 8), [], none⟩,
    ⟨some 53, .load true 8 (.t 3), [], none⟩,
    ⟨some 54, .call 53 [(false, .t 53)], [3], none⟩,
    ⟨some 55, .mks false 6 [.t 54], [4], none⟩,
    ⟨some 56, .call 55 [(true, .t 51), (false, .t 52), (false, .t 55)], [5, 2, 1], none⟩,
    ⟨some 57, .fad 64 (.t 6), [6], none⟩,
    ⟨none, .store 1 (.t 57) (.t 56), [7], none⟩])) (.skip)))
  (.seq (.region false [⟨some 58, .load true 65 (.t 6), [], none⟩,
    ⟨none, .store 65 (.t 4) (.t 58), [], none⟩,
    ⟨some 5, .mov none (.k (.one (.iv (.int .i64 0)))), [], none⟩])
  (.ret))))))))
def v19 : VFn := ⟨2, 59, [.c 4 true 65, .t 5], b19⟩

theorem c19 : chkFn Try.prog 19 v19 = true := by kernel_rfl

/- scholia/docs.Read -/
def l36_0 : VCode := .seq (.region false [⟨some 20, .bin .lss (.t 19) (.t 18), [], none⟩])
  (.seq (.cond (.t 20) (.skip) (.exit 0))
  (.seq (.block 1 (.seq (.region false [⟨some 21, .ixS 6 (.t 17) (.t 19), [], none⟩,
    ⟨some 22, .load true 6 (.t 21), [], none⟩,
    ⟨some 9, .new [.iv (.int .i64 0), .iv (.int .i64 0), .iv (.int .i64 0), .iv (.str ⟨#[]⟩), .iv (.int .i64 0), .iv (.str ⟨#[]⟩)], [], none⟩,
    ⟨none, .store 6 (.t 9) (.t 22), [], none⟩])
  (.seq (.region false [⟨some 23, .fad 4 (.t 9), [], none⟩,
    ⟨some 24, .load false 1 (.t 23), [], none⟩,
    ⟨some 25, .bin .geq (.t 24) (.k (.one (.iv (.int .i64 1)))), [], none⟩,
    ⟨some 26, .mov none (.t 25), [], none⟩,
    ⟨some 27, .fad 4 (.t 9), [], some (26, true)⟩,
    ⟨some 28, .load false 1 (.t 27), [], some (26, true)⟩,
    ⟨some 29, .bin .leq (.t 28) (.k (.one (.iv (.int .i64 4)))), [], some (26, true)⟩,
    ⟨some 30, .pick (.t 26) (.t 29) (.k (.one (.iv (.bool false)))), [], none⟩])
  (.cond (.t 30) (.region false [⟨some 31, .fad 4 (.t 9), [], none⟩,
    ⟨some 32, .load false 1 (.t 31), [], none⟩,
    ⟨some 33, .bin .sub (.t 32) (.k (.one (.iv (.int .i64 1)))), [], none⟩,
    ⟨some 34, .fad 5 (.t 9), [], none⟩,
    ⟨some 35, .load false 1 (.t 34), [], none⟩,
    ⟨some 36, .fad 1 (.t 6), [], none⟩,
    ⟨some 37, .ixA 4 1 (.t 36) (.t 33), [], none⟩,
    ⟨none, .store 1 (.t 37) (.t 35), [], none⟩]) (.skip)))))
  (.region false [⟨some 38, .bin .add (.t 19) (.k (.one (.iv (.int .i64 1)))), [], none⟩,
    ⟨some 19, .mov none (.t 38), [], none⟩])))
def b36 : VCode := .seq (.region false [⟨some 2, .box (.t 0), [], none⟩,
    ⟨some 4, .new [.iv (.str ⟨#[]⟩), .iv (.arr 4 (List.replicate 4 (.str ⟨#[]⟩)))], [], none⟩,
    ⟨some 5, .mov none (.k (.one (.iv (.bool false)))), [], none⟩])
  (.seq (.region false [⟨some 10, .mov none (.t 1), [], none⟩,
    ⟨some 11, .build [.iv (.str ⟨#[]⟩), .iv (.arr 4 (List.replicate 4 (.str ⟨#[]⟩)))] [(0, 1, .t 10)], [], none⟩,
    ⟨some 6, .new [.iv (.str ⟨#[]⟩), .iv (.arr 4 (List.replicate 4 (.str ⟨#[]⟩)))], [], none⟩,
    ⟨none, .store 5 (.t 6) (.t 11), [], none⟩])
  (.seq (.region false [⟨some 12, .load true 65 (.t 2), [], none⟩,
    ⟨some 13, .mov none (.t 1), [], none⟩,
    ⟨some 14, .call 81 [(false, .t 12), (false, .t 13), (false, .k (.one (.iv (.int .i64 (-1)))))], [], none⟩,
    ⟨some 7, .mov none (.t 14), [], none⟩])
  (.seq (.region false [⟨some 15, .mov none (.t 7), [], none⟩,
    ⟨some 16, .call 82 [(true, .t 15), (false, .k (.one (.iv (.fn 83))))], [], none⟩])
  (.seq (.seq (.region false [⟨some 17, .mov none (.t 7), [], none⟩,
    ⟨some 18, .blt .len [.t 17], [], none⟩,
    ⟨some 19, .mov none (.k (.one (.iv (.int .i64 0)))), [], none⟩])
  (.block 0 (.loop false [4, 6, 7, 17, 18, 19] l36_0)))
  (.seq (.seq (.region false [⟨some 39, .mov none (.t 7), [], none⟩,
    ⟨some 40, .blt .len [.t 39], [], none⟩,
    ⟨some 41, .bin .eql (.t 40) (.k (.one (.iv (.int .i64 0)))), [], none⟩])
  (.cond (.t 41) (.seq (.region false [⟨some 42, .build [.iv (.str ⟨#[]⟩), .iv (.arr 4 (List.replicate 4 (.str ⟨#[]⟩)))] [], [], none⟩,
    ⟨none, .store 5 (.t 4) (.t 42), [], none⟩,
    ⟨some 5, .mov none (.k (.one (.iv (.bool false)))), [], none⟩])
  (.ret)) (.skip)))
  (.seq (.region false [⟨some 43, .load true 5 (.t 6), [], none⟩,
    ⟨none, .store 5 (.t 4) (.t 43), [], none⟩,
    ⟨some 5, .mov none (.k (.one (.iv (.bool true)))), [], none⟩])
  (.ret)))))))
def v36 : VFn := ⟨2, 44, [.c 4 true 5, .t 5], b36⟩

theorem c36 : chkFn Try.prog 36 v36 = true := by kernel_rfl

/- scholia/utf.Valid -/
def l37_0 : VCode := .seq (.seq (.region false [⟨some 6, .mov none (.t 3), [], none⟩,
    ⟨some 7, .mov none (.t 0), [], none⟩,
    ⟨some 8, .blt .lenS [.t 7], [], none⟩,
    ⟨some 9, .bin .lss (.t 6) (.t 8), [], none⟩])
  (.cond (.t 9) (.skip) (.exit 0)))
  (.block 1 (.seq (.region false [⟨some 11, .mov none (.t 0), [], none⟩,
    ⟨some 12, .mov none (.t 3), [], none⟩,
    ⟨some 13, .call 84 [(false, .t 11), (false, .t 12)], [], none⟩,
    ⟨some 10, .mov none (.t 13), [], none⟩,
    ⟨some 14, .ext 0 (.t 10), [], none⟩,
    ⟨some 15, .ext 1 (.t 10), [], none⟩,
    ⟨some 4, .mov none (.t 14), [], none⟩,
    ⟨some 5, .mov none (.t 15), [], none⟩])
  (.seq (.seq (.region false [⟨some 16, .mov none (.t 4), [], none⟩,
    ⟨some 17, .bin .lss (.t 16) (.k (.one (.iv (.int .i64 0)))), [], none⟩])
  (.cond (.t 17) (.seq (.region false [⟨some 2, .mov none (.k (.one (.iv (.bool false)))), [], none⟩])
  (.ret)) (.skip)))
  (.region false [⟨some 18, .mov none (.t 3), [], none⟩,
    ⟨some 19, .mov none (.t 5), [], none⟩,
    ⟨some 20, .bin .add (.t 18) (.t 19), [], none⟩,
    ⟨some 3, .mov none (.t 20), [], none⟩]))))
def b37 : VCode := .seq (.region false [⟨some 2, .mov none (.k (.one (.iv (.bool false)))), [], none⟩])
  (.seq (.seq (.region false [⟨some 3, .mov none (.k (.one (.iv (.int .i64 0)))), [], none⟩])
  (.block 0 (.loop false [0, 3] l37_0)))
  (.seq (.region false [⟨some 2, .mov none (.k (.one (.iv (.bool true)))), [], none⟩])
  (.ret)))
def v37 : VFn := ⟨1, 21, [.t 2], b37⟩

theorem c37 : chkFn Try.prog 37 v37 = true := by kernel_rfl

/- scholia/scholiaref03.Valid -/
def l38_0 : VCode := .seq (.region false [⟨some 10, .bin .lss (.t 9) (.t 8), [], none⟩])
  (.seq (.cond (.t 10) (.skip) (.exit 0))
  (.seq (.block 1 (.seq (.region false [⟨some 11, .mov none (.t 9), [], none⟩,
    ⟨some 4, .mov none (.t 11), [], none⟩])
  (.seq (.seq (.region false [⟨some 12, .mov none (.t 3), [], none⟩,
    ⟨some 13, .bin .gtr (.t 12) (.k (.one (.iv (.int .i64 0)))), [], none⟩])
  (.cond (.t 13) (.seq (.region false [⟨some 14, .mov none (.t 3), [], none⟩,
    ⟨some 15, .bin .sub (.t 14) (.k (.one (.iv (.int .i64 1)))), [], none⟩,
    ⟨some 3, .mov none (.t 15), [], none⟩])
  (.exit 1)) (.skip)))
  (.seq (.region false [⟨some 17, .mov none (.t 0), [], none⟩,
    ⟨some 18, .mov none (.t 4), [], none⟩,
    ⟨some 19, .call 85 [(false, .t 17), (false, .t 18)], [], none⟩,
    ⟨some 16, .mov none (.t 19), [], none⟩,
    ⟨some 20, .ext 0 (.t 16), [], none⟩,
    ⟨some 21, .ext 1 (.t 16), [], none⟩,
    ⟨some 5, .mov none (.t 20), [], none⟩,
    ⟨some 6, .mov none (.t 21), [], none⟩])
  (.seq (.seq (.region false [⟨some 22, .mov none (.t 5), [], none⟩,
    ⟨some 23, .bin .lss (.t 22) (.k (.one (.iv (.int .i64 0)))), [], none⟩])
  (.cond (.t 23) (.seq (.region false [⟨some 2, .mov none (.k (.one (.iv (.bool false)))), [], none⟩])
  (.ret)) (.skip)))
  (.region false [⟨some 24, .mov none (.t 6), [], none⟩,
    ⟨some 25, .bin .sub (.t 24) (.k (.one (.iv (.int .i64 1)))), [], none⟩,
    ⟨some 3, .mov none (.t 25), [], none⟩]))))))
  (.region false [⟨some 26, .bin .add (.t 9) (.k (.one (.iv (.int .i64 1)))), [], none⟩,
    ⟨some 9, .mov none (.t 26), [], none⟩])))
def b38 : VCode := .seq (.region false [⟨some 2, .mov none (.k (.one (.iv (.bool false)))), [], none⟩])
  (.seq (.region false [⟨some 3, .mov none (.k (.one (.iv (.int .i64 0)))), [], none⟩])
  (.seq (.seq (.region false [⟨some 7, .mov none (.t 0), [], none⟩,
    ⟨some 8, .blt .lenS [.t 7], [], none⟩,
    ⟨some 9, .mov none (.k (.one (.iv (.int .i64 0)))), [], none⟩])
  (.block 0 (.loop false [0, 3, 8, 9] l38_0)))
  (.seq (.region false [⟨some 2, .mov none (.k (.one (.iv (.bool true)))), [], none⟩])
  (.ret))))
def v38 : VFn := ⟨1, 27, [.t 2], b38⟩

theorem c38 : chkFn Try.prog 38 v38 = true := by kernel_rfl

/- scholia/dots.Valid -/
def b39 : VCode := .seq (.region false [⟨some 1, .box (.t 0), [], none⟩,
    ⟨some 2, .mov none (.k (.one (.iv (.bool false)))), [], none⟩])
  (.seq (.region false [⟨some 3, .fad 0 (.t 1), [], none⟩,
    ⟨some 4, .load false 1 (.t 3), [], none⟩,
    ⟨some 5, .bin .geq (.t 4) (.k (.one (.iv (.int .i64 0)))), [], none⟩,
    ⟨some 6, .mov none (.t 5), [], none⟩,
    ⟨some 7, .fad 0 (.t 1), [], some (6, true)⟩,
    ⟨some 8, .load false 1 (.t 7), [], some (6, true)⟩,
    ⟨some 9, .bin .lss (.t 8) (.k (.one (.iv (.int .i64 64)))), [], some (6, true)⟩,
    ⟨some 10, .pick (.t 6) (.t 9) (.k (.one (.iv (.bool false)))), [], none⟩,
    ⟨some 11, .mov none (.t 10), [], none⟩,
    ⟨some 12, .fad 1 (.t 1), [], some (11, true)⟩,
    ⟨some 13, .load false 1 (.t 12), [], some (11, true)⟩,
    ⟨some 14, .bin .geq (.t 13) (.k (.one (.iv (.int .i64 1)))), [], some (11, true)⟩,
    ⟨some 15, .pick (.t 11) (.t 14) (.k (.one (.iv (.bool false)))), [], none⟩,
    ⟨some 16, .mov none (.t 15), [], none⟩,
    ⟨some 17, .fad 1 (.t 1), [], some (16, true)⟩,
    ⟨some 18, .load false 1 (.t 17), [], some (16, true)⟩,
    ⟨some 19, .bin .leq (.t 18) (.k (.one (.iv (.int .i64 1073741824)))), [], some (16, true)⟩,
    ⟨some 20, .pick (.t 16) (.t 19) (.k (.one (.iv (.bool false)))), [], none⟩,
    ⟨some 2, .mov none (.t 20), [], none⟩])
  (.ret))
def v39 : VFn := ⟨1, 21, [.t 2], b39⟩

theorem c39 : chkFn Try.prog 39 v39 = true := by kernel_rfl

/- scholia/docs.gone -/
def l40_0 : VCode := .seq (.region false [⟨some 10, .bin .lss (.t 9) (.t 8), [], none⟩])
  (.seq (.cond (.t 10) (.skip) (.exit 0))
  (.seq (.block 1 (.seq (.region false [⟨some 11, .mov none (.t 9), [], none⟩,
    ⟨some 12, .ixS 2 (.t 7) (.t 9), [], none⟩,
    ⟨some 13, .load true 2 (.t 12), [], none⟩,
    ⟨some 6, .new [.iv (.int .i64 0), .iv (.int .i64 0)], [], none⟩,
    ⟨some 5, .mov none (.t 11), [], none⟩,
    ⟨none, .store 2 (.t 6) (.t 13), [], none⟩])
  (.seq (.region true [⟨some 14, .load true 2 (.t 6), [], none⟩,
    ⟨some 15, .call 39 [(false, .t 14)], [0], none⟩,
    ⟨some 16, .un .not (.t 15), [1], none⟩,
    ⟨some 17, .mov none (.t 16), [2], none⟩,
    ⟨some 18, .load true 2 (.t 6), [3], some (17, false)⟩,
    ⟨some 19, .load true 2 (.t 2), [3], some (17, false)⟩,
    ⟨some 20, .eqa .eql ([.int] ++ [.int]) (.t 18) (.t 19), [5, 4], some (17, false)⟩,
    ⟨some 21, .pick (.t 17) (.k (.one (.iv (.bool true)))) (.t 20), [6], none⟩,
    ⟨some 22, .mov none (.t 21), [7], none⟩,
    ⟨some 23, .mov none (.t 5), [8], some (22, false)⟩,
    ⟨some 24, .bin .gtr (.t 23) (.k (.one (.iv (.int .i64 0)))), [9], some (22, false)⟩,
    ⟨some 25, .mov none (.t 24), [10], some (22, false)⟩,
    ⟨some 26, .mov none (.t 1), [11], some (25, true)⟩,
    ⟨some 27, .mov none (.t 5), [11], some (25, true)⟩,
    ⟨some 28, .bin .sub (.t 27) (.k (.one (.iv (.int .i64 1)))), [13], some (25, true)⟩,
    ⟨some 29, .ixS 2 (.t 26) (.t 28), [14, 12], some (25, true)⟩,
    ⟨some 30, .load true 2 (.t 29), [15], some (25, true)⟩,
    ⟨some 31, .load true 2 (.t 6), [11], some (25, true)⟩,
    ⟨some 32, .call 86 [(false, .t 30), (false, .t 31)], [17, 16], some (25, true)⟩,
    ⟨some 33, .bin .geq (.t 32) (.k (.one (.iv (.int .i64 0)))), [18], some (25, true)⟩,
    ⟨some 34, .pick (.t 25) (.t 33) (.k (.one (.iv (.bool false)))), [19], some (22, false)⟩,
    ⟨some 35, .pick (.t 22) (.k (.one (.iv (.bool true)))) (.t 34), [20], none⟩])
  (.cond (.t 35) (.seq (.region false [⟨some 4, .mov none (.k (.one (.iv (.bool false)))), [], none⟩])
  (.ret)) (.skip)))))
  (.region false [⟨some 36, .bin .add (.t 9) (.k (.one (.iv (.int .i64 1)))), [], none⟩,
    ⟨some 9, .mov none (.t 36), [], none⟩])))
def b40 : VCode := .seq (.region false [⟨some 2, .box (.t 0), [], none⟩,
    ⟨some 4, .mov none (.k (.one (.iv (.bool false)))), [], none⟩])
  (.seq (.seq (.region false [⟨some 7, .mov none (.t 1), [], none⟩,
    ⟨some 8, .blt .len [.t 7], [], none⟩,
    ⟨some 9, .mov none (.k (.one (.iv (.int .i64 0)))), [], none⟩])
  (.block 0 (.loop false [1, 2, 7, 8, 9] l40_0)))
  (.seq (.region false [⟨some 37, .mov none (.t 1), [], none⟩,
    ⟨some 38, .blt .len [.t 37], [], none⟩,
    ⟨some 39, .bin .leq (.t 38) (.k (.one (.iv (.int .i64 120)))), [], none⟩,
    ⟨some 4, .mov none (.t 39), [], none⟩])
  (.ret)))
def v40 : VFn := ⟨2, 40, [.t 4], b40⟩

theorem c40 : chkFn Try.prog 40 v40 = true := by kernel_rfl

/- scholia/scholiaref08.Valid -/
def b41 : VCode := .seq (.region false [⟨some 1, .box (.t 0), [], none⟩,
    ⟨some 2, .mov none (.k (.one (.iv (.bool false)))), [], none⟩])
  (.seq (.region false [⟨some 3, .fad 0 (.t 1), [], none⟩,
    ⟨some 4, .load false 1 (.t 3), [], none⟩,
    ⟨some 5, .bin .geq (.t 4) (.k (.one (.iv (.int .i64 0)))), [], none⟩,
    ⟨some 6, .mov none (.t 5), [], none⟩,
    ⟨some 7, .fad 0 (.t 1), [], some (6, true)⟩,
    ⟨some 8, .load false 1 (.t 7), [], some (6, true)⟩,
    ⟨some 9, .bin .leq (.t 8) (.k (.one (.iv (.int .i64 63)))), [], some (6, true)⟩,
    ⟨some 10, .pick (.t 6) (.t 9) (.k (.one (.iv (.bool false)))), [], none⟩,
    ⟨some 11, .mov none (.t 10), [], none⟩,
    ⟨some 12, .fad 1 (.t 1), [], some (11, true)⟩,
    ⟨some 13, .load false 1 (.t 12), [], some (11, true)⟩,
    ⟨some 14, .bin .geq (.t 13) (.k (.one (.iv (.int .i64 1)))), [], some (11, true)⟩,
    ⟨some 15, .pick (.t 11) (.t 14) (.k (.one (.iv (.bool false)))), [], none⟩,
    ⟨some 16, .mov none (.t 15), [], none⟩,
    ⟨some 17, .fad 1 (.t 1), [], some (16, true)⟩,
    ⟨some 18, .load false 1 (.t 17), [], some (16, true)⟩,
    ⟨some 19, .bin .leq (.t 18) (.k (.one (.iv (.int .i64 1073741824)))), [], some (16, true)⟩,
    ⟨some 20, .pick (.t 16) (.t 19) (.k (.one (.iv (.bool false)))), [], none⟩,
    ⟨some 2, .mov none (.t 20), [], none⟩])
  (.ret))
def v41 : VFn := ⟨1, 21, [.t 2], b41⟩

theorem c41 : chkFn Try.prog 41 v41 = true := by kernel_rfl

/- scholia/scholiaref08.Less -/
def b42 : VCode := .seq (.region false [⟨some 2, .box (.t 0), [], none⟩,
    ⟨some 3, .box (.t 1), [], none⟩,
    ⟨some 4, .mov none (.k (.one (.iv (.bool false)))), [], none⟩])
  (.seq (.region false [⟨some 5, .fad 0 (.t 2), [], none⟩,
    ⟨some 6, .load false 1 (.t 5), [], none⟩,
    ⟨some 7, .fad 0 (.t 3), [], none⟩,
    ⟨some 8, .load false 1 (.t 7), [], none⟩,
    ⟨some 9, .bin .lss (.t 6) (.t 8), [], none⟩,
    ⟨some 10, .mov none (.t 9), [], none⟩,
    ⟨some 11, .fad 0 (.t 2), [], some (10, false)⟩,
    ⟨some 12, .load false 1 (.t 11), [], some (10, false)⟩,
    ⟨some 13, .fad 0 (.t 3), [], some (10, false)⟩,
    ⟨some 14, .load false 1 (.t 13), [], some (10, false)⟩,
    ⟨some 15, .bin .eql (.t 12) (.t 14), [], some (10, false)⟩,
    ⟨some 16, .mov none (.t 15), [], some (10, false)⟩,
    ⟨some 17, .fad 1 (.t 2), [], some (16, true)⟩,
    ⟨some 18, .load false 1 (.t 17), [], some (16, true)⟩,
    ⟨some 19, .fad 1 (.t 3), [], some (16, true)⟩,
    ⟨some 20, .load false 1 (.t 19), [], some (16, true)⟩,
    ⟨some 21, .bin .lss (.t 18) (.t 20), [], some (16, true)⟩,
    ⟨some 22, .pick (.t 16) (.t 21) (.k (.one (.iv (.bool false)))), [], some (10, false)⟩,
    ⟨some 23, .pick (.t 10) (.k (.one (.iv (.bool true)))) (.t 22), [], none⟩,
    ⟨some 4, .mov none (.t 23), [], none⟩])
  (.ret))
def v42 : VFn := ⟨2, 24, [.t 4], b42⟩

theorem c42 : chkFn Try.prog 42 v42 = true := by kernel_rfl

/- scholia/dots.Has -/
def b47 : VCode := .seq (.region false [⟨some 2, .box (.t 0), [], none⟩,
    ⟨some 3, .box (.t 1), [], none⟩,
    ⟨some 4, .mov none (.k (.one (.iv (.bool false)))), [], none⟩])
  (.seq (.region true [⟨some 5, .load true 2 (.t 3), [], none⟩,
    ⟨some 6, .call 39 [(false, .t 5)], [0], none⟩,
    ⟨some 7, .mov none (.t 6), [1], none⟩,
    ⟨some 8, .fad 1 (.t 3), [2], some (7, true)⟩,
    ⟨some 9, .load false 1 (.t 8), [3], some (7, true)⟩,
    ⟨some 10, .fad 0 (.t 3), [2], some (7, true)⟩,
    ⟨some 11, .load false 1 (.t 10), [5], some (7, true)⟩,
    ⟨some 12, .ixA 64 1 (.t 2) (.t 11), [6], some (7, true)⟩,
    ⟨some 13, .load false 1 (.t 12), [7], some (7, true)⟩,
    ⟨some 14, .bin .leq (.t 9) (.t 13), [8, 4], some (7, true)⟩,
    ⟨some 15, .pick (.t 7) (.t 14) (.k (.one (.iv (.bool false)))), [9], none⟩,
    ⟨some 4, .mov none (.t 15), [10], none⟩])
  (.ret))
def v47 : VFn := ⟨2, 16, [.t 4], b47⟩

theorem c47 : chkFn Try.prog 47 v47 = true := by kernel_rfl

/- scholia/dots.With -/
def b48 : VCode := .seq (.region false [⟨some 2, .box (.t 0), [], none⟩,
    ⟨some 3, .box (.t 1), [], none⟩,
    ⟨some 4, .new [.iv (.arr 64 (List.replicate 64 (.int .i64 0)))], [], none⟩])
  (.seq (.seq (.region false [⟨some 5, .load true 2 (.t 3), [], none⟩,
    ⟨some 6, .call 39 [(false, .t 5)], [], none⟩])
  (.cond (.t 6) (.region true [⟨some 7, .fad 0 (.t 3), [], none⟩,
    ⟨some 8, .load false 1 (.t 7), [0], none⟩,
    ⟨some 9, .fad 0 (.t 3), [], none⟩,
    ⟨some 10, .load false 1 (.t 9), [2], none⟩,
    ⟨some 11, .ixA 64 1 (.t 2) (.t 10), [3], none⟩,
    ⟨some 12, .load false 1 (.t 11), [4], none⟩,
    ⟨some 13, .fad 1 (.t 3), [], none⟩,
    ⟨some 14, .load false 1 (.t 13), [6], none⟩,
    ⟨some 15, .blt .max [.t 12, .t 14], [7, 5], none⟩,
    ⟨some 16, .ixA 64 1 (.t 2) (.t 8), [8, 1], none⟩,
    ⟨none, .store 1 (.t 16) (.t 15), [9], none⟩]) (.skip)))
  (.seq (.region false [⟨some 17, .load true 64 (.t 2), [], none⟩,
    ⟨none, .store 64 (.t 4) (.t 17), [], none⟩])
  (.ret)))
def v48 : VFn := ⟨2, 18, [.c 4 true 64], b48⟩

theorem c48 : chkFn Try.prog 48 v48 = true := by kernel_rfl

/- slices.DeleteFunc[[]scholia/api.Write,scholia/api.Write] -/
def l49_0 : VCode := .seq (.seq (.region false [⟨some 16, .mov none (.t 6), [], none⟩,
    ⟨some 17, .mov none (.t 0), [], none⟩,
    ⟨some 18, .blt .len [.t 17], [], none⟩,
    ⟨some 19, .bin .lss (.t 16) (.t 18), [], none⟩])
  (.cond (.t 19) (.skip) (.exit 0)))
  (.seq (.block 1 (.seq (.region false [⟨some 22, .mov none (.t 0), [], none⟩,
    ⟨some 23, .mov none (.t 6), [], none⟩,
    ⟨some 24, .ixS 6 (.t 22) (.t 23), [], none⟩,
    ⟨some 25, .load true 6 (.t 24), [], none⟩,
    ⟨some 7, .new [.iv (.int .i64 0), .iv (.int .i64 0), .iv (.int .i64 0), .iv (.str ⟨#[]⟩), .iv (.int .i64 0), .iv (.str ⟨#[]⟩)], [], none⟩,
    ⟨none, .store 6 (.t 7) (.t 25), [], none⟩])
  (.seq (.region false [⟨some 26, .mov none (.t 1), [], none⟩,
    ⟨some 27, .load true 6 (.t 7), [], none⟩,
    ⟨some 28, .callv (.t 26) [(false, .t 27)], [], none⟩,
    ⟨some 29, .un .not (.t 28), [], none⟩])
  (.cond (.t 29) (.seq (.region false [⟨some 30, .mov none (.t 0), [], none⟩,
    ⟨some 31, .mov none (.t 5), [], none⟩,
    ⟨some 32, .load true 6 (.t 7), [], none⟩,
    ⟨some 33, .ixS 6 (.t 30) (.t 31), [], none⟩,
    ⟨none, .store 6 (.t 33) (.t 32), [], none⟩])
  (.region false [⟨some 34, .mov none (.t 5), [], none⟩,
    ⟨some 35, .bin .add (.t 34) (.k (.one (.iv (.int .i64 1)))), [], none⟩,
    ⟨some 5, .mov none (.t 35), [], none⟩])) (.skip)))))
  (.region false [⟨some 20, .mov none (.t 6), [], none⟩,
    ⟨some 21, .bin .add (.t 20) (.k (.one (.iv (.int .i64 1)))), [], none⟩,
    ⟨some 6, .mov none (.t 21), [], none⟩]))
def b49 : VCode := .seq (.region false [⟨some 4, .mov none (.k (.one (.iv (.sl true 0 [])))), [], none⟩])
  (.seq (.region false [⟨some 8, .mov none (.t 0), [], none⟩,
    ⟨some 9, .mov none (.t 1), [], none⟩,
    ⟨some 10, .call 87 [(true, .t 8), (false, .t 9)], [], none⟩,
    ⟨some 5, .mov none (.t 10), [], none⟩])
  (.seq (.seq (.region false [⟨some 11, .mov none (.t 5), [], none⟩,
    ⟨some 12, .bin .eql (.t 11) (.k (.one (.iv (.int .i64 (-1))))), [], none⟩])
  (.cond (.t 12) (.seq (.region false [⟨some 13, .mov none (.t 0), [], none⟩,
    ⟨some 4, .mov none (.t 13), [], none⟩])
  (.ret)) (.skip)))
  (.seq (.seq (.region false [⟨some 14, .mov none (.t 5), [], none⟩,
    ⟨some 15, .bin .add (.t 14) (.k (.one (.iv (.int .i64 1)))), [], none⟩,
    ⟨some 6, .mov none (.t 15), [], none⟩])
  (.block 0 (.loop false [0, 1, 5, 6] l49_0)))
  (.seq (.region false [⟨some 36, .mov none (.t 0), [], none⟩,
    ⟨some 37, .mov none (.t 5), [], none⟩,
    ⟨some 38, .slS 6 (.t 36) (some (.t 37)) none none, [], none⟩,
    ⟨none, .blt (.clear [(.int .i64 0), (.int .i64 0), (.int .i64 0), (.str ⟨#[]⟩), (.int .i64 0), (.str ⟨#[]⟩)]) [.t 38], [], none⟩])
  (.seq (.region false [⟨some 39, .mov none (.t 0), [], none⟩,
    ⟨some 40, .mov none (.t 5), [], none⟩,
    ⟨some 41, .slS 6 (.t 39) none (some (.t 40)) none, [], none⟩,
    ⟨some 4, .mov none (.t 41), [], none⟩])
  (.ret))))))
def v49 : VFn := ⟨2, 42, [.t 4], b49⟩

theorem c49 : chkFn Try.prog 49 v49 = true := by kernel_rfl

/- scholia/docs.Apply$1 -/
def b50 : VCode := .seq (.region false [⟨some 2, .box (.t 0), [], none⟩,
    ⟨some 3, .mov none (.k (.one (.iv (.bool false)))), [], none⟩])
  (.seq (.region false [⟨some 4, .fad 7 (.t 1), [], none⟩,
    ⟨some 5, .load false 1 (.t 4), [], none⟩,
    ⟨some 6, .fad 0 (.t 2), [], none⟩,
    ⟨some 7, .load true 2 (.t 6), [], none⟩,
    ⟨some 8, .call 51 [(false, .t 5), (false, .t 7)], [], none⟩,
    ⟨some 3, .mov none (.t 8), [], none⟩])
  (.ret))
def v50 : VFn := ⟨2, 9, [.t 3], b50⟩

theorem c50 : chkFn Try.prog 50 v50 = true := by kernel_rfl

/- slices.Contains[[]scholia/api.Dot,scholia/api.Dot] -/
def b51 : VCode := .seq (.region false [⟨some 3, .box (.t 1), [], none⟩,
    ⟨some 4, .mov none (.k (.one (.iv (.bool false)))), [], none⟩])
  (.seq (.region false [⟨some 5, .mov none (.t 0), [], none⟩,
    ⟨some 6, .load true 2 (.t 3), [], none⟩,
    ⟨some 7, .call 88 [(false, .t 5), (false, .t 6)], [], none⟩,
    ⟨some 8, .bin .geq (.t 7) (.k (.one (.iv (.int .i64 0)))), [], none⟩,
    ⟨some 4, .mov none (.t 8), [], none⟩])
  (.ret))
def v51 : VFn := ⟨2, 9, [.t 4], b51⟩

theorem c51 : chkFn Try.prog 51 v51 = true := by kernel_rfl

/- slices.BinarySearchFunc[[]scholia/api.Write,scholia/api.Write,scholia/api.Write] -/
def l52_0 : VCode := .seq (.seq (.region false [⟨some 15, .mov none (.t 9), [], none⟩,
    ⟨some 16, .mov none (.t 10), [], none⟩,
    ⟨some 17, .bin .lss (.t 15) (.t 16), [], none⟩])
  (.cond (.t 17) (.skip) (.exit 0)))
  (.block 1 (.seq (.region false [⟨some 18, .mov none (.t 9), [], none⟩,
    ⟨some 19, .mov none (.t 10), [], none⟩,
    ⟨some 20, .bin .add (.t 18) (.t 19), [], none⟩,
    ⟨some 21, .conv .u64 (.t 20), [], none⟩,
    ⟨some 22, .bin .shr (.t 21) (.k (.one (.iv (.int .u64 1)))), [], none⟩,
    ⟨some 23, .conv .i64 (.t 22), [], none⟩,
    ⟨some 11, .mov none (.t 23), [], none⟩])
  (.seq (.region true [⟨some 24, .mov none (.t 2), [], none⟩,
    ⟨some 25, .mov none (.t 0), [], none⟩,
    ⟨some 26, .mov none (.t 11), [], none⟩,
    ⟨some 27, .ixS 6 (.t 25) (.t 26), [2, 1], none⟩,
    ⟨some 28, .load true 6 (.t 27), [3], none⟩,
    ⟨some 29, .load true 6 (.t 4), [], none⟩,
    ⟨some 30, .callv (.t 24) [(false, .t 28), (false, .t 29)], [5, 4, 0], none⟩,
    ⟨some 31, .bin .lss (.t 30) (.k (.one (.iv (.int .i64 0)))), [6], none⟩])
  (.cond (.t 31) (.region false [⟨some 32, .mov none (.t 11), [], none⟩,
    ⟨some 33, .bin .add (.t 32) (.k (.one (.iv (.int .i64 1)))), [], none⟩,
    ⟨some 9, .mov none (.t 33), [], none⟩]) (.region false [⟨some 34, .mov none (.t 11), [], none⟩,
    ⟨some 10, .mov none (.t 34), [], none⟩])))))
def b52 : VCode := .seq (.region false [⟨some 4, .box (.t 1), [], none⟩,
    ⟨some 6, .mov none (.k (.one (.iv (.int .i64 0)))), [], none⟩,
    ⟨some 7, .mov none (.k (.one (.iv (.bool false)))), [], none⟩])
  (.seq (.region false [⟨some 12, .mov none (.t 0), [], none⟩,
    ⟨some 13, .blt .len [.t 12], [], none⟩,
    ⟨some 8, .mov none (.t 13), [], none⟩])
  (.seq (.region false [⟨some 14, .mov none (.t 8), [], none⟩,
    ⟨some 9, .mov none (.k (.one (.iv (.int .i64 0)))), [], none⟩,
    ⟨some 10, .mov none (.t 14), [], none⟩])
  (.seq (.block 0 (.loop false [0, 2, 4, 8, 9, 10] l52_0))
  (.seq (.region true [⟨some 35, .mov none (.t 9), [], none⟩,
    ⟨some 36, .mov none (.t 9), [], none⟩,
    ⟨some 37, .mov none (.t 8), [], none⟩,
    ⟨some 38, .bin .lss (.t 36) (.t 37), [2, 1], none⟩,
    ⟨some 39, .mov none (.t 38), [3], none⟩,
    ⟨some 40, .mov none (.t 2), [4], some (39, true)⟩,
    ⟨some 41, .mov none (.t 0), [4], some (39, true)⟩,
    ⟨some 42, .mov none (.t 9), [4], some (39, true)⟩,
    ⟨some 43, .ixS 6 (.t 41) (.t 42), [7, 6], some (39, true)⟩,
    ⟨some 44, .load true 6 (.t 43), [8], some (39, true)⟩,
    ⟨some 45, .load true 6 (.t 4), [4], some (39, true)⟩,
    ⟨some 46, .callv (.t 40) [(false, .t 44), (false, .t 45)], [10, 9, 5], some (39, true)⟩,
    ⟨some 47, .bin .eql (.t 46) (.k (.one (.iv (.int .i64 0)))), [11], some (39, true)⟩,
    ⟨some 48, .pick (.t 39) (.t 47) (.k (.one (.iv (.bool false)))), [12], none⟩,
    ⟨some 6, .mov none (.t 35), [11, 0], none⟩,
    ⟨some 7, .mov none (.t 48), [14, 13], none⟩])
  (.ret)))))
def v52 : VFn := ⟨3, 49, [.t 6, .t 7], b52⟩

theorem c52 : chkFn Try.prog 52 v52 = true := by kernel_rfl

/- scholia/docs.write -/
def b53 : VCode := .seq (.region false [⟨some 1, .box (.t 0), [], none⟩,
    ⟨some 2, .new [.iv (.int .i64 0), .iv (.int .i64 0), .iv (.int .i64 0), .iv (.str ⟨#[]⟩), .iv (.int .i64 0), .iv (.str ⟨#[]⟩)], [], none⟩])
  (.seq (.region false [⟨some 3, .fad 0 (.t 1), [], none⟩,
    ⟨some 4, .load true 2 (.t 3), [], none⟩,
    ⟨some 5, .fad 2 (.t 1), [], none⟩,
    ⟨some 6, .load false 1 (.t 5), [], none⟩,
    ⟨some 7, .fad 4 (.t 1), [], none⟩,
    ⟨some 8, .load false 1 (.t 7), [], none⟩,
    ⟨some 9, .fad 5 (.t 1), [], none⟩,
    ⟨some 10, .load false 1 (.t 9), [], none⟩,
    ⟨some 11, .fad 6 (.t 1), [], none⟩,
    ⟨some 12, .load false 1 (.t 11), [], none⟩,
    ⟨some 13, .build [.iv (.int .i64 0), .iv (.int .i64 0), .iv (.int .i64 0), .iv (.str ⟨#[]⟩), .iv (.int .i64 0), .iv (.str ⟨#[]⟩)] [(0, 2, .t 4), (2, 1, .t 6), (3, 1, .t 8), (4, 1, .t 10), (5, 1, .t 12)], [], none⟩,
    ⟨none, .store 6 (.t 2) (.t 13), [], none⟩])
  (.ret))
def v53 : VFn := ⟨1, 14, [.c 2 true 6], b53⟩

theorem c53 : chkFn Try.prog 53 v53 = true := by kernel_rfl

/- scholia/docs.order -/
def b54 : VCode := .seq (.region false [⟨some 2, .box (.t 0), [], none⟩,
    ⟨some 3, .box (.t 1), [], none⟩,
    ⟨some 4, .mov none (.k (.one (.iv (.int .i64 0)))), [], none⟩])
  (.seq (.region true [⟨some 5, .fad 3 (.t 2), [], none⟩,
    ⟨some 6, .load false 1 (.t 5), [0], none⟩,
    ⟨some 7, .fad 3 (.t 3), [], none⟩,
    ⟨some 8, .load false 1 (.t 7), [2], none⟩,
    ⟨some 9, .call 90 [(false, .t 6), (false, .t 8)], [3, 1], none⟩,
    ⟨some 10, .fad 4 (.t 2), [], none⟩,
    ⟨some 11, .load false 1 (.t 10), [5], none⟩,
    ⟨some 12, .fad 4 (.t 3), [], none⟩,
    ⟨some 13, .load false 1 (.t 12), [7], none⟩,
    ⟨some 14, .call 91 [(false, .t 11), (false, .t 13)], [8, 6, 4], none⟩,
    ⟨some 15, .fad 0 (.t 2), [], none⟩,
    ⟨some 16, .load true 2 (.t 15), [10], none⟩,
    ⟨some 17, .fad 0 (.t 3), [], none⟩,
    ⟨some 18, .load true 2 (.t 17), [12], none⟩,
    ⟨some 19, .call 86 [(false, .t 16), (false, .t 18)], [13, 11, 9], none⟩,
    ⟨some 20, .mks false 1 [.t 9, .t 14, .t 19], [14], none⟩,
    ⟨some 21, .call 89 [(false, .t 20)], [15], none⟩,
    ⟨some 4, .mov none (.t 21), [16], none⟩])
  (.ret))
def v54 : VFn := ⟨2, 22, [.t 4], b54⟩

theorem c54 : chkFn Try.prog 54 v54 = true := by kernel_rfl

/- slices.Insert[[]scholia/api.Write,scholia/api.Write] -/
def b55 : VCode := .seq (.region false [⟨some 6, .mov none (.k (.one (.iv (.sl true 0 [])))), [], none⟩])
  (.seq (.region false [⟨some 10, .mov none (.t 0), [], none⟩,
    ⟨some 11, .mov none (.t 1), [], none⟩,
    ⟨some 12, .slS 6 (.t 10) (some (.t 11)) none none, [], none⟩])
  (.seq (.region false [⟨some 13, .mov none (.t 2), [], none⟩,
    ⟨some 14, .blt .len [.t 13], [], none⟩,
    ⟨some 7, .mov none (.t 14), [], none⟩])
  (.seq (.seq (.region false [⟨some 15, .mov none (.t 7), [], none⟩,
    ⟨some 16, .bin .eql (.t 15) (.k (.one (.iv (.int .i64 0)))), [], none⟩])
  (.cond (.t 16) (.seq (.region false [⟨some 17, .mov none (.t 0), [], none⟩,
    ⟨some 6, .mov none (.t 17), [], none⟩])
  (.ret)) (.skip)))
  (.seq (.region false [⟨some 18, .mov none (.t 0), [], none⟩,
    ⟨some 19, .blt .len [.t 18], [], none⟩,
    ⟨some 8, .mov none (.t 19), [], none⟩])
  (.seq (.seq (.region false [⟨some 20, .mov none (.t 1), [], none⟩,
    ⟨some 21, .mov none (.t 8), [], none⟩,
    ⟨some 22, .bin .eql (.t 20) (.t 21), [], none⟩])
  (.cond (.t 22) (.seq (.region false [⟨some 23, .mov none (.t 0), [], none⟩,
    ⟨some 24, .mov none (.t 2), [], none⟩,
    ⟨some 25, .blt (.append 6 64) [.t 23, .t 24], [], none⟩,
    ⟨some 6, .mov none (.t 25), [], none⟩])
  (.ret)) (.skip)))
  (.bad))))))
def v55 : VFn := ⟨3, 95, [.t 6], b55⟩

theorem c55 : chkFn Try.prog 55 v55 = true := by kernel_rfl

/- scholia/docs.Of -/
def l81_0 : VCode := .seq (.region false [⟨some 14, .bin .lss (.t 13) (.t 12), [], none⟩])
  (.seq (.cond (.t 14) (.skip) (.exit 0))
  (.seq (.block 1 (.seq (.region false [⟨some 15, .ixS 6 (.t 11) (.t 13), [], none⟩,
    ⟨some 16, .load true 6 (.t 15), [], none⟩,
    ⟨some 9, .new [.iv (.int .i64 0), .iv (.int .i64 0), .iv (.int .i64 0), .iv (.str ⟨#[]⟩), .iv (.int .i64 0), .iv (.str ⟨#[]⟩)], [], none⟩,
    ⟨none, .store 6 (.t 9) (.t 16), [], none⟩])
  (.seq (.region false [⟨some 17, .fad 3 (.t 9), [], none⟩,
    ⟨some 18, .load false 1 (.t 17), [], none⟩,
    ⟨some 19, .mov none (.t 1), [], none⟩,
    ⟨some 20, .bin .eql (.t 18) (.t 19), [], none⟩,
    ⟨some 21, .mov none (.t 20), [], none⟩,
    ⟨some 22, .mov none (.t 2), [], some (21, true)⟩,
    ⟨some 23, .bin .lss (.t 22) (.k (.one (.iv (.int .i64 0)))), [], some (21, true)⟩,
    ⟨some 24, .mov none (.t 23), [], some (21, true)⟩,
    ⟨some 25, .fad 4 (.t 9), [], some (24, false)⟩,
    ⟨some 26, .load false 1 (.t 25), [], some (24, false)⟩,
    ⟨some 27, .mov none (.t 2), [], some (24, false)⟩,
    ⟨some 28, .bin .eql (.t 26) (.t 27), [], some (24, false)⟩,
    ⟨some 29, .pick (.t 24) (.k (.one (.iv (.bool true)))) (.t 28), [], some (21, true)⟩,
    ⟨some 30, .pick (.t 21) (.t 29) (.k (.one (.iv (.bool false)))), [], none⟩])
  (.cond (.t 30) (.region false [⟨some 31, .mov none (.t 7), [], none⟩,
    ⟨some 32, .load true 6 (.t 9), [], none⟩,
    ⟨some 33, .mks false 6 [.t 32], [], none⟩,
    ⟨some 34, .blt (.append 6 64) [.t 31, .t 33], [], none⟩,
    ⟨some 7, .mov none (.t 34), [], none⟩]) (.skip)))))
  (.region false [⟨some 35, .bin .add (.t 13) (.k (.one (.iv (.int .i64 1)))), [], none⟩,
    ⟨some 13, .mov none (.t 35), [], none⟩])))
def b81 : VCode := .seq (.region false [⟨some 3, .box (.t 0), [], none⟩,
    ⟨some 6, .mov none (.k (.one (.iv (.sl true 0 [])))), [], none⟩])
  (.seq (.region false [⟨some 7, .mov (some 6) (.k (.one (.iv (.sl true 0 [])))), [], none⟩])
  (.seq (.seq (.region false [⟨some 10, .fad 64 (.t 3), [], none⟩,
    ⟨some 11, .load false 1 (.t 10), [], none⟩,
    ⟨some 12, .blt .len [.t 11], [], none⟩,
    ⟨some 13, .mov none (.k (.one (.iv (.int .i64 0)))), [], none⟩])
  (.block 0 (.loop false [1, 2, 7, 11, 12, 13] l81_0)))
  (.seq (.region false [⟨some 36, .mov none (.t 7), [], none⟩,
    ⟨some 6, .mov none (.t 36), [], none⟩])
  (.ret))))
def v81 : VFn := ⟨3, 37, [.t 6], b81⟩

theorem c81 : chkFn Try.prog 81 v81 = true := by kernel_rfl

/- slices.SortStableFunc[[]scholia/api.Write,scholia/api.Write] -/
def b82 : VCode := .region false [⟨some 4, .mov none (.t 0), [], none⟩,
    ⟨some 5, .mov none (.t 0), [], none⟩,
    ⟨some 6, .blt .len [.t 5], [], none⟩,
    ⟨some 7, .mov none (.t 1), [], none⟩,
    ⟨some 8, .call 109 [(true, .t 4), (false, .t 6), (false, .t 7)], [], none⟩]
def v82 : VFn := ⟨2, 9, [], b82⟩

theorem c82 : chkFn Try.prog 82 v82 = true := by kernel_rfl

/- scholia/stable.Compare -/
def b83 : VCode := .seq (.region false [⟨some 2, .box (.t 0), [], none⟩,
    ⟨some 3, .box (.t 1), [], none⟩,
    ⟨some 4, .mov none (.k (.one (.iv (.int .i64 0)))), [], none⟩])
  (.seq (.region true [⟨some 5, .fad 2 (.t 2), [], none⟩,
    ⟨some 6, .load false 1 (.t 5), [0], none⟩,
    ⟨some 7, .fad 2 (.t 3), [], none⟩,
    ⟨some 8, .load false 1 (.t 7), [2], none⟩,
    ⟨some 9, .call 91 [(false, .t 6), (false, .t 8)], [3, 1], none⟩,
    ⟨some 10, .fad 0 (.t 2), [], none⟩,
    ⟨some 11, .load true 2 (.t 10), [5], none⟩,
    ⟨some 12, .fad 0 (.t 3), [], none⟩,
    ⟨some 13, .load true 2 (.t 12), [7], none⟩,
    ⟨some 14, .call 86 [(false, .t 11), (false, .t 13)], [8, 6, 4], none⟩,
    ⟨some 15, .mks false 1 [.t 9, .t 14], [9], none⟩,
    ⟨some 16, .call 89 [(false, .t 15)], [10], none⟩,
    ⟨some 4, .mov none (.t 16), [11], none⟩])
  (.ret))
def v83 : VFn := ⟨2, 17, [.t 4], b83⟩

theorem c83 : chkFn Try.prog 83 v83 = true := by kernel_rfl

/- scholia/utf.Next -/
def l84_0 : VCode := .seq (.region false [⟨some 47, .bin .lss (.t 46) (.t 45), [], none⟩])
  (.seq (.cond (.t 47) (.skip) (.exit 0))
  (.seq (.block 1 (.seq (.region false [⟨some 48, .ixS 1 (.t 44) (.t 46), [], none⟩,
    ⟨some 49, .load false 1 (.t 48), [], none⟩,
    ⟨some 9, .mov none (.t 49), [], none⟩])
  (.seq (.seq (.region false [⟨some 50, .mov none (.t 9), [], none⟩,
    ⟨some 51, .bin .and (.t 50) (.k (.one (.iv (.int .u8 192)))), [], none⟩,
    ⟨some 52, .bin .neq (.t 51) (.k (.one (.iv (.int .u8 128)))), [], none⟩])
  (.cond (.t 52) (.seq (.region false [⟨some 4, .mov none (.k (.one (.iv (.int .i64 (-1))))), [], none⟩,
    ⟨some 5, .mov none (.k (.one (.iv (.int .i64 1)))), [], none⟩])
  (.ret)) (.skip)))
  (.region false [⟨some 53, .mov none (.t 7), [], none⟩,
    ⟨some 54, .bin .shl (.t 53) (.k (.one (.iv (.int .u64 6)))), [], none⟩,
    ⟨some 55, .mov none (.t 9), [], none⟩,
    ⟨some 56, .bin .and (.t 55) (.k (.one (.iv (.int .u8 63)))), [], none⟩,
    ⟨some 57, .conv .i64 (.t 56), [], none⟩,
    ⟨some 58, .bin .or (.t 54) (.t 57), [], none⟩,
    ⟨some 7, .mov none (.t 58), [], none⟩]))))
  (.region false [⟨some 59, .bin .add (.t 46) (.k (.one (.iv (.int .i64 1)))), [], none⟩,
    ⟨some 46, .mov none (.t 59), [], none⟩])))
def b84 : VCode := .seq (.region false [⟨some 4, .mov none (.k (.one (.iv (.int .i64 0)))), [], none⟩,
    ⟨some 5, .mov none (.k (.one (.iv (.int .i64 0)))), [], none⟩])
  (.seq (.seq (.region false [⟨some 10, .mov none (.t 1), [], none⟩,
    ⟨some 11, .bin .lss (.t 10) (.k (.one (.iv (.int .i64 0)))), [], none⟩,
    ⟨some 12, .mov none (.t 11), [], none⟩,
    ⟨some 13, .mov none (.t 1), [], some (12, false)⟩,
    ⟨some 14, .mov none (.t 0), [], some (12, false)⟩,
    ⟨some 15, .blt .lenS [.t 14], [], some (12, false)⟩,
    ⟨some 16, .bin .geq (.t 13) (.t 15), [], some (12, false)⟩,
    ⟨some 17, .pick (.t 12) (.k (.one (.iv (.bool true)))) (.t 16), [], none⟩])
  (.cond (.t 17) (.seq (.region false [⟨some 4, .mov none (.k (.one (.iv (.int .i64 (-1))))), [], none⟩,
    ⟨some 5, .mov none (.k (.one (.iv (.int .i64 0)))), [], none⟩])
  (.ret)) (.skip)))
  (.seq (.region false [⟨some 18, .mov none (.t 0), [], none⟩,
    ⟨some 19, .mov none (.t 1), [], none⟩,
    ⟨some 20, .ixT (.t 18) (.t 19), [], none⟩,
    ⟨some 21, .call 110 [(false, .t 20)], [], none⟩,
    ⟨some 6, .new [.iv (.int .i64 0), .iv (.int .i64 0), .iv (.int .i64 0)], [], none⟩,
    ⟨none, .store 3 (.t 6) (.t 21), [], none⟩])
  (.seq (.seq (.region false [⟨some 22, .fad 0 (.t 6), [], none⟩,
    ⟨some 23, .load false 1 (.t 22), [], none⟩,
    ⟨some 24, .bin .eql (.t 23) (.k (.one (.iv (.int .i64 0)))), [], none⟩,
    ⟨some 25, .mov none (.t 24), [], none⟩,
    ⟨some 26, .fad 0 (.t 6), [], some (25, false)⟩,
    ⟨some 27, .load false 1 (.t 26), [], some (25, false)⟩,
    ⟨some 28, .mov none (.t 0), [], some (25, false)⟩,
    ⟨some 29, .blt .lenS [.t 28], [], some (25, false)⟩,
    ⟨some 30, .mov none (.t 1), [], some (25, false)⟩,
    ⟨some 31, .bin .sub (.t 29) (.t 30), [], some (25, false)⟩,
    ⟨some 32, .bin .gtr (.t 27) (.t 31), [], some (25, false)⟩,
    ⟨some 33, .pick (.t 25) (.k (.one (.iv (.bool true)))) (.t 32), [], none⟩])
  (.cond (.t 33) (.seq (.region false [⟨some 4, .mov none (.k (.one (.iv (.int .i64 (-1))))), [], none⟩,
    ⟨some 5, .mov none (.k (.one (.iv (.int .i64 1)))), [], none⟩])
  (.ret)) (.skip)))
  (.seq (.region false [⟨some 34, .fad 1 (.t 6), [], none⟩,
    ⟨some 35, .load false 1 (.t 34), [], none⟩,
    ⟨some 7, .mov none (.t 35), [], none⟩])
  (.seq (.seq (.region false [⟨some 36, .mov none (.t 0), [], none⟩,
    ⟨some 37, .mov none (.t 1), [], none⟩,
    ⟨some 38, .bin .add (.t 37) (.k (.one (.iv (.int .i64 1)))), [], none⟩,
    ⟨some 39, .mov none (.t 1), [], none⟩,
    ⟨some 40, .fad 0 (.t 6), [], none⟩,
    ⟨some 41, .load false 1 (.t 40), [], none⟩,
    ⟨some 42, .bin .add (.t 39) (.t 41), [], none⟩,
    ⟨some 43, .slT (.t 36) (some (.t 38)) (some (.t 42)), [], none⟩,
    ⟨some 44, .s2b (.t 43), [], none⟩,
    ⟨some 45, .blt .len [.t 44], [], none⟩,
    ⟨some 46, .mov none (.k (.one (.iv (.int .i64 0)))), [], none⟩])
  (.block 0 (.loop false [6, 7, 44, 45, 46] l84_0)))
  (.seq (.seq (.region false [⟨some 60, .mov none (.t 7), [], none⟩,
    ⟨some 61, .fad 2 (.t 6), [], none⟩,
    ⟨some 62, .load false 1 (.t 61), [], none⟩,
    ⟨some 63, .bin .lss (.t 60) (.t 62), [], none⟩,
    ⟨some 64, .mov none (.t 63), [], none⟩,
    ⟨some 65, .mov none (.t 7), [], some (64, false)⟩,
    ⟨some 66, .call 111 [(false, .t 65)], [], some (64, false)⟩,
    ⟨some 67, .un .not (.t 66), [], some (64, false)⟩,
    ⟨some 68, .pick (.t 64) (.k (.one (.iv (.bool true)))) (.t 67), [], none⟩])
  (.cond (.t 68) (.seq (.region false [⟨some 4, .mov none (.k (.one (.iv (.int .i64 (-1))))), [], none⟩,
    ⟨some 5, .mov none (.k (.one (.iv (.int .i64 1)))), [], none⟩])
  (.ret)) (.skip)))
  (.seq (.region true [⟨some 69, .mov none (.t 7), [], none⟩,
    ⟨some 70, .fad 0 (.t 6), [], none⟩,
    ⟨some 71, .load false 1 (.t 70), [1], none⟩,
    ⟨some 4, .mov none (.t 69), [0], none⟩,
    ⟨some 5, .mov none (.t 71), [3, 2], none⟩])
  (.ret))))))))
def v84 : VFn := ⟨2, 72, [.t 4, .t 5], b84⟩

theorem c84 : chkFn Try.prog 84 v84 = true := by kernel_rfl

/- scholia/scholiaref03.Next -/
def l85_0 : VCode := .seq (.region false [⟨some 22, .bin .lss (.t 21) (.k (.one (.iv (.int .i64 4)))), [], none⟩])
  (.seq (.cond (.t 22) (.skip) (.exit 0))
  (.seq (.block 1 (.seq (.region false [⟨some 23, .mov none (.t 21), [], none⟩,
    ⟨some 7, .mov none (.t 23), [], none⟩])
  (.seq (.region false [⟨some 24, .mov none (.t 7), [], none⟩,
    ⟨some 25, .bin .add (.t 24) (.k (.one (.iv (.int .i64 1)))), [], none⟩,
    ⟨some 8, .mov none (.t 25), [], none⟩])
  (.seq (.seq (.region false [⟨some 26, .mov none (.t 8), [], none⟩,
    ⟨some 27, .mov none (.t 6), [], none⟩,
    ⟨some 28, .blt .lenS [.t 27], [], none⟩,
    ⟨some 29, .bin .gtr (.t 26) (.t 28), [], none⟩])
  (.cond (.t 29) (.seq (.region false [⟨some 4, .mov none (.k (.one (.iv (.int .i64 (-1))))), [], none⟩,
    ⟨some 5, .mov none (.k (.one (.iv (.int .i64 1)))), [], none⟩])
  (.ret)) (.skip)))
  (.seq (.region false [⟨some 9, .mov none (.k (.one (.iv (.int .i64 0)))), [], none⟩])
  (.seq (.seq (.region false [⟨some 30, .mov none (.t 8), [], none⟩,
    ⟨some 31, .bin .eql (.t 30) (.k (.one (.iv (.int .i64 1)))), [], none⟩])
  (.cond (.t 31) (.region false [⟨some 32, .mov none (.t 6), [], none⟩,
    ⟨some 33, .ixT (.t 32) (.k (.one (.iv (.int .i64 0)))), [], none⟩,
    ⟨some 34, .conv .i64 (.t 33), [], none⟩,
    ⟨some 9, .mov none (.t 34), [], none⟩]) (.skip)))
  (.seq (.seq (.region false [⟨some 35, .mov none (.t 8), [], none⟩,
    ⟨some 36, .bin .eql (.t 35) (.k (.one (.iv (.int .i64 2)))), [], none⟩])
  (.cond (.t 36) (.region true [⟨some 37, .mov none (.t 6), [], none⟩,
    ⟨some 38, .ixT (.t 37) (.k (.one (.iv (.int .i64 0)))), [0], none⟩,
    ⟨some 39, .conv .i64 (.t 38), [1], none⟩,
    ⟨some 40, .bin .rem (.t 39) (.k (.one (.iv (.int .i64 32)))), [2], none⟩,
    ⟨some 41, .bin .mul (.t 40) (.k (.one (.iv (.int .i64 64)))), [3], none⟩,
    ⟨some 42, .mov none (.t 6), [], none⟩,
    ⟨some 43, .ixT (.t 42) (.k (.one (.iv (.int .i64 1)))), [5], none⟩,
    ⟨some 44, .call 112 [(false, .t 43)], [6], none⟩,
    ⟨some 45, .bin .add (.t 41) (.t 44), [7, 4], none⟩,
    ⟨some 9, .mov none (.t 45), [8], none⟩]) (.skip)))
  (.seq (.seq (.region false [⟨some 46, .mov none (.t 8), [], none⟩,
    ⟨some 47, .bin .eql (.t 46) (.k (.one (.iv (.int .i64 3)))), [], none⟩])
  (.cond (.t 47) (.region true [⟨some 48, .mov none (.t 6), [], none⟩,
    ⟨some 49, .ixT (.t 48) (.k (.one (.iv (.int .i64 0)))), [0], none⟩,
    ⟨some 50, .conv .i64 (.t 49), [1], none⟩,
    ⟨some 51, .bin .rem (.t 50) (.k (.one (.iv (.int .i64 16)))), [2], none⟩,
    ⟨some 52, .bin .mul (.t 51) (.k (.one (.iv (.int .i64 4096)))), [3], none⟩,
    ⟨some 53, .mov none (.t 6), [], none⟩,
    ⟨some 54, .ixT (.t 53) (.k (.one (.iv (.int .i64 1)))), [5], none⟩,
    ⟨some 55, .call 112 [(false, .t 54)], [6], none⟩,
    ⟨some 56, .bin .mul (.t 55) (.k (.one (.iv (.int .i64 64)))), [7], none⟩,
    ⟨some 57, .bin .add (.t 52) (.t 56), [8, 4], none⟩,
    ⟨some 58, .mov none (.t 6), [], none⟩,
    ⟨some 59, .ixT (.t 58) (.k (.one (.iv (.int .i64 2)))), [10], none⟩,
    ⟨some 60, .call 112 [(false, .t 59)], [11, 7], none⟩,
    ⟨some 61, .bin .add (.t 57) (.t 60), [12, 9], none⟩,
    ⟨some 9, .mov none (.t 61), [13], none⟩]) (.skip)))
  (.seq (.seq (.region false [⟨some 62, .mov none (.t 8), [], none⟩,
    ⟨some 63, .bin .eql (.t 62) (.k (.one (.iv (.int .i64 4)))), [], none⟩])
  (.cond (.t 63) (.region true [⟨some 64, .mov none (.t 6), [], none⟩,
    ⟨some 65, .ixT (.t 64) (.k (.one (.iv (.int .i64 0)))), [0], none⟩,
    ⟨some 66, .conv .i64 (.t 65), [1], none⟩,
    ⟨some 67, .bin .rem (.t 66) (.k (.one (.iv (.int .i64 8)))), [2], none⟩,
    ⟨some 68, .bin .mul (.t 67) (.k (.one (.iv (.int .i64 262144)))), [3], none⟩,
    ⟨some 69, .mov none (.t 6), [], none⟩,
    ⟨some 70, .ixT (.t 69) (.k (.one (.iv (.int .i64 1)))), [5], none⟩,
    ⟨some 71, .call 112 [(false, .t 70)], [6], none⟩,
    ⟨some 72, .bin .mul (.t 71) (.k (.one (.iv (.int .i64 4096)))), [7], none⟩,
    ⟨some 73, .bin .add (.t 68) (.t 72), [8, 4], none⟩,
    ⟨some 74, .mov none (.t 6), [], none⟩,
    ⟨some 75, .ixT (.t 74) (.k (.one (.iv (.int .i64 2)))), [10], none⟩,
    ⟨some 76, .call 112 [(false, .t 75)], [11, 7], none⟩,
    ⟨some 77, .bin .mul (.t 76) (.k (.one (.iv (.int .i64 64)))), [12], none⟩,
    ⟨some 78, .bin .add (.t 73) (.t 77), [13, 9], none⟩,
    ⟨some 79, .mov none (.t 6), [], none⟩,
    ⟨some 80, .ixT (.t 79) (.k (.one (.iv (.int .i64 3)))), [15], none⟩,
    ⟨some 81, .call 112 [(false, .t 80)], [16, 12], none⟩,
    ⟨some 82, .bin .add (.t 78) (.t 81), [17, 14], none⟩,
    ⟨some 9, .mov none (.t 82), [18], none⟩]) (.skip)))
  (.seq (.region true [⟨some 83, .mov none (.t 9), [], none⟩,
    ⟨some 84, .call 113 [(false, .t 83)], [0], none⟩,
    ⟨some 85, .b2s (.t 84), [1], none⟩,
    ⟨some 86, .mov none (.t 6), [], none⟩,
    ⟨some 87, .mov none (.t 8), [], none⟩,
    ⟨some 88, .slT (.t 86) none (some (.t 87)), [4, 3], none⟩,
    ⟨some 89, .bin .eql (.t 85) (.t 88), [5, 2], none⟩])
  (.cond (.t 89) (.seq (.region false [⟨some 90, .mov none (.t 9), [], none⟩,
    ⟨some 91, .mov none (.t 8), [], none⟩,
    ⟨some 4, .mov none (.t 90), [], none⟩,
    ⟨some 5, .mov none (.t 91), [], none⟩])
  (.ret)) (.skip))))))))))))
  (.region false [⟨some 92, .bin .add (.t 21) (.k (.one (.iv (.int .i64 1)))), [], none⟩,
    ⟨some 21, .mov none (.t 92), [], none⟩])))
def b85 : VCode := .seq (.region false [⟨some 4, .mov none (.k (.one (.iv (.int .i64 0)))), [], none⟩,
    ⟨some 5, .mov none (.k (.one (.iv (.int .i64 0)))), [], none⟩])
  (.seq (.seq (.region false [⟨some 10, .mov none (.t 1), [], none⟩,
    ⟨some 11, .bin .lss (.t 10) (.k (.one (.iv (.int .i64 0)))), [], none⟩,
    ⟨some 12, .mov none (.t 11), [], none⟩,
    ⟨some 13, .mov none (.t 1), [], some (12, false)⟩,
    ⟨some 14, .mov none (.t 0), [], some (12, false)⟩,
    ⟨some 15, .blt .lenS [.t 14], [], some (12, false)⟩,
    ⟨some 16, .bin .geq (.t 13) (.t 15), [], some (12, false)⟩,
    ⟨some 17, .pick (.t 12) (.k (.one (.iv (.bool true)))) (.t 16), [], none⟩])
  (.cond (.t 17) (.seq (.region false [⟨some 4, .mov none (.k (.one (.iv (.int .i64 (-1))))), [], none⟩,
    ⟨some 5, .mov none (.k (.one (.iv (.int .i64 0)))), [], none⟩])
  (.ret)) (.skip)))
  (.seq (.region false [⟨some 18, .mov none (.t 0), [], none⟩,
    ⟨some 19, .mov none (.t 1), [], none⟩,
    ⟨some 20, .slT (.t 18) (some (.t 19)) none, [], none⟩,
    ⟨some 6, .mov none (.t 20), [], none⟩])
  (.seq (.seq (.region false [⟨some 21, .mov none (.k (.one (.iv (.int .i64 0)))), [], none⟩])
  (.block 0 (.loop false [6, 21] l85_0)))
  (.seq (.region false [⟨some 4, .mov none (.k (.one (.iv (.int .i64 (-1))))), [], none⟩,
    ⟨some 5, .mov none (.k (.one (.iv (.int .i64 1)))), [], none⟩])
  (.ret)))))
def v85 : VFn := ⟨2, 93, [.t 4, .t 5], b85⟩

theorem c85 : chkFn Try.prog 85 v85 = true := by kernel_rfl

/- scholia/dots.Compare -/
def b86 : VCode := .seq (.region false [⟨some 2, .box (.t 0), [], none⟩,
    ⟨some 3, .box (.t 1), [], none⟩,
    ⟨some 4, .mov none (.k (.one (.iv (.int .i64 0)))), [], none⟩])
  (.seq (.region true [⟨some 5, .fad 0 (.t 2), [], none⟩,
    ⟨some 6, .load false 1 (.t 5), [0], none⟩,
    ⟨some 7, .fad 0 (.t 3), [], none⟩,
    ⟨some 8, .load false 1 (.t 7), [2], none⟩,
    ⟨some 9, .call 91 [(false, .t 6), (false, .t 8)], [3, 1], none⟩,
    ⟨some 10, .fad 1 (.t 2), [], none⟩,
    ⟨some 11, .load false 1 (.t 10), [5], none⟩,
    ⟨some 12, .fad 1 (.t 3), [], none⟩,
    ⟨some 13, .load false 1 (.t 12), [7], none⟩,
    ⟨some 14, .call 91 [(false, .t 11), (false, .t 13)], [8, 6, 4], none⟩,
    ⟨some 15, .mks false 1 [.t 9, .t 14], [9], none⟩,
    ⟨some 16, .call 89 [(false, .t 15)], [10], none⟩,
    ⟨some 4, .mov none (.t 16), [11], none⟩])
  (.ret))
def v86 : VFn := ⟨2, 17, [.t 4], b86⟩

theorem c86 : chkFn Try.prog 86 v86 = true := by kernel_rfl

/- slices.IndexFunc[[]scholia/api.Write,scholia/api.Write] -/
def l87_0 : VCode := .seq (.region false [⟨some 9, .bin .lss (.t 8) (.t 7), [], none⟩])
  (.seq (.cond (.t 9) (.skip) (.exit 0))
  (.seq (.block 1 (.seq (.region false [⟨some 10, .mov none (.t 8), [], none⟩,
    ⟨some 5, .mov none (.t 10), [], none⟩])
  (.seq (.region false [⟨some 11, .mov none (.t 1), [], none⟩,
    ⟨some 12, .mov none (.t 0), [], none⟩,
    ⟨some 13, .mov none (.t 5), [], none⟩,
    ⟨some 14, .ixS 6 (.t 12) (.t 13), [], none⟩,
    ⟨some 15, .load true 6 (.t 14), [], none⟩,
    ⟨some 16, .callv (.t 11) [(false, .t 15)], [], none⟩])
  (.cond (.t 16) (.seq (.region false [⟨some 17, .mov none (.t 5), [], none⟩,
    ⟨some 4, .mov none (.t 17), [], none⟩])
  (.ret)) (.skip)))))
  (.region false [⟨some 18, .bin .add (.t 8) (.k (.one (.iv (.int .i64 1)))), [], none⟩,
    ⟨some 8, .mov none (.t 18), [], none⟩])))
def b87 : VCode := .seq (.region false [⟨some 4, .mov none (.k (.one (.iv (.int .i64 0)))), [], none⟩])
  (.seq (.seq (.region false [⟨some 6, .mov none (.t 0), [], none⟩,
    ⟨some 7, .blt .len [.t 6], [], none⟩,
    ⟨some 8, .mov none (.k (.one (.iv (.int .i64 0)))), [], none⟩])
  (.block 0 (.loop false [0, 1, 7, 8] l87_0)))
  (.seq (.region false [⟨some 4, .mov none (.k (.one (.iv (.int .i64 (-1))))), [], none⟩])
  (.ret)))
def v87 : VFn := ⟨2, 19, [.t 4], b87⟩

theorem c87 : chkFn Try.prog 87 v87 = true := by kernel_rfl

/- slices.Index[[]scholia/api.Dot,scholia/api.Dot] -/
def l88_0 : VCode := .seq (.region false [⟨some 9, .bin .lss (.t 8) (.t 7), [], none⟩])
  (.seq (.cond (.t 9) (.skip) (.exit 0))
  (.seq (.block 1 (.seq (.region false [⟨some 10, .mov none (.t 8), [], none⟩,
    ⟨some 5, .mov none (.t 10), [], none⟩])
  (.seq (.region true [⟨some 11, .load true 2 (.t 3), [], none⟩,
    ⟨some 12, .mov none (.t 0), [], none⟩,
    ⟨some 13, .mov none (.t 5), [], none⟩,
    ⟨some 14, .ixS 2 (.t 12) (.t 13), [2, 1], none⟩,
    ⟨some 15, .load true 2 (.t 14), [3], none⟩,
    ⟨some 16, .eqa .eql ([.int] ++ [.int]) (.t 11) (.t 15), [4, 0], none⟩])
  (.cond (.t 16) (.seq (.region false [⟨some 17, .mov none (.t 5), [], none⟩,
    ⟨some 4, .mov none (.t 17), [], none⟩])
  (.ret)) (.skip)))))
  (.region false [⟨some 18, .bin .add (.t 8) (.k (.one (.iv (.int .i64 1)))), [], none⟩,
    ⟨some 8, .mov none (.t 18), [], none⟩])))
def b88 : VCode := .seq (.region false [⟨some 3, .box (.t 1), [], none⟩,
    ⟨some 4, .mov none (.k (.one (.iv (.int .i64 0)))), [], none⟩])
  (.seq (.seq (.region false [⟨some 6, .mov none (.t 0), [], none⟩,
    ⟨some 7, .blt .len [.t 6], [], none⟩,
    ⟨some 8, .mov none (.k (.one (.iv (.int .i64 0)))), [], none⟩])
  (.block 0 (.loop false [0, 3, 7, 8] l88_0)))
  (.seq (.region false [⟨some 4, .mov none (.k (.one (.iv (.int .i64 (-1))))), [], none⟩])
  (.ret)))
def v88 : VFn := ⟨2, 19, [.t 4], b88⟩

theorem c88 : chkFn Try.prog 88 v88 = true := by kernel_rfl

/- cmp.Or[int] -/
def l89_0 : VCode := .seq (.region false [⟨some 9, .bin .lss (.t 8) (.t 7), [], none⟩])
  (.seq (.cond (.t 9) (.skip) (.exit 0))
  (.seq (.block 1 (.seq (.region false [⟨some 10, .ixS 1 (.t 6) (.t 8), [], none⟩,
    ⟨some 11, .load false 1 (.t 10), [], none⟩,
    ⟨some 5, .mov none (.t 11), [], none⟩])
  (.seq (.region false [⟨some 12, .mov none (.t 5), [], none⟩,
    ⟨some 13, .mov none (.t 3), [], none⟩,
    ⟨some 14, .bin .neq (.t 12) (.t 13), [], none⟩])
  (.cond (.t 14) (.seq (.region false [⟨some 15, .mov none (.t 5), [], none⟩,
    ⟨some 2, .mov none (.t 15), [], none⟩])
  (.ret)) (.skip)))))
  (.region false [⟨some 16, .bin .add (.t 8) (.k (.one (.iv (.int .i64 1)))), [], none⟩,
    ⟨some 8, .mov none (.t 16), [], none⟩])))
def b89 : VCode := .seq (.region false [⟨some 2, .mov none (.k (.one (.iv (.int .i64 0)))), [], none⟩])
  (.seq (.region false [⟨some 3, .mov none (.k (.one (.iv (.int .i64 0)))), [], none⟩])
  (.seq (.seq (.region false [⟨some 6, .mov none (.t 0), [], none⟩,
    ⟨some 7, .blt .len [.t 6], [], none⟩,
    ⟨some 8, .mov none (.k (.one (.iv (.int .i64 0)))), [], none⟩])
  (.block 0 (.loop false [3, 6, 7, 8] l89_0)))
  (.seq (.region false [⟨some 17, .mov none (.t 3), [], none⟩,
    ⟨some 2, .mov none (.t 17), [], none⟩])
  (.ret))))
def v89 : VFn := ⟨1, 18, [.t 2], b89⟩

theorem c89 : chkFn Try.prog 89 v89 = true := by kernel_rfl

/- cmp.Compare[string] -/
def b90 : VCode := .seq (.region false [⟨some 4, .mov none (.k (.one (.iv (.int .i64 0)))), [], none⟩])
  (.seq (.region false [⟨some 7, .mov none (.t 0), [], none⟩,
    ⟨some 8, .call 114 [(false, .t 7)], [], none⟩,
    ⟨some 5, .mov none (.t 8), [], none⟩])
  (.seq (.region false [⟨some 9, .mov none (.t 1), [], none⟩,
    ⟨some 10, .call 114 [(false, .t 9)], [], none⟩,
    ⟨some 6, .mov none (.t 10), [], none⟩])
  (.seq (.seq (.region false [⟨some 11, .mov none (.t 5), [], none⟩])
  (.cond (.t 11) (.seq (.seq (.region false [⟨some 12, .mov none (.t 6), [], none⟩])
  (.cond (.t 12) (.seq (.region false [⟨some 4, .mov none (.k (.one (.iv (.int .i64 0)))), [], none⟩])
  (.ret)) (.skip)))
  (.seq (.region false [⟨some 4, .mov none (.k (.one (.iv (.int .i64 (-1))))), [], none⟩])
  (.ret))) (.skip)))
  (.seq (.seq (.region false [⟨some 13, .mov none (.t 6), [], none⟩])
  (.cond (.t 13) (.seq (.region false [⟨some 4, .mov none (.k (.one (.iv (.int .i64 1)))), [], none⟩])
  (.ret)) (.skip)))
  (.seq (.seq (.region false [⟨some 14, .mov none (.t 0), [], none⟩,
    ⟨some 15, .mov none (.t 1), [], none⟩,
    ⟨some 16, .bin .lss (.t 14) (.t 15), [], none⟩])
  (.cond (.t 16) (.seq (.region false [⟨some 4, .mov none (.k (.one (.iv (.int .i64 (-1))))), [], none⟩])
  (.ret)) (.skip)))
  (.seq (.seq (.region false [⟨some 17, .mov none (.t 0), [], none⟩,
    ⟨some 18, .mov none (.t 1), [], none⟩,
    ⟨some 19, .bin .gtr (.t 17) (.t 18), [], none⟩])
  (.cond (.t 19) (.seq (.region false [⟨some 4, .mov none (.k (.one (.iv (.int .i64 1)))), [], none⟩])
  (.ret)) (.skip)))
  (.seq (.region false [⟨some 4, .mov none (.k (.one (.iv (.int .i64 0)))), [], none⟩])
  (.ret))))))))
def v90 : VFn := ⟨2, 20, [.t 4], b90⟩

theorem c90 : chkFn Try.prog 90 v90 = true := by kernel_rfl

/- cmp.Compare[int] -/
def b91 : VCode := .seq (.region false [⟨some 4, .mov none (.k (.one (.iv (.int .i64 0)))), [], none⟩])
  (.seq (.region false [⟨some 7, .mov none (.t 0), [], none⟩,
    ⟨some 8, .call 115 [(false, .t 7)], [], none⟩,
    ⟨some 5, .mov none (.t 8), [], none⟩])
  (.seq (.region false [⟨some 9, .mov none (.t 1), [], none⟩,
    ⟨some 10, .call 115 [(false, .t 9)], [], none⟩,
    ⟨some 6, .mov none (.t 10), [], none⟩])
  (.seq (.seq (.region false [⟨some 11, .mov none (.t 5), [], none⟩])
  (.cond (.t 11) (.seq (.seq (.region false [⟨some 12, .mov none (.t 6), [], none⟩])
  (.cond (.t 12) (.seq (.region false [⟨some 4, .mov none (.k (.one (.iv (.int .i64 0)))), [], none⟩])
  (.ret)) (.skip)))
  (.seq (.region false [⟨some 4, .mov none (.k (.one (.iv (.int .i64 (-1))))), [], none⟩])
  (.ret))) (.skip)))
  (.seq (.seq (.region false [⟨some 13, .mov none (.t 6), [], none⟩])
  (.cond (.t 13) (.seq (.region false [⟨some 4, .mov none (.k (.one (.iv (.int .i64 1)))), [], none⟩])
  (.ret)) (.skip)))
  (.seq (.seq (.region false [⟨some 14, .mov none (.t 0), [], none⟩,
    ⟨some 15, .mov none (.t 1), [], none⟩,
    ⟨some 16, .bin .lss (.t 14) (.t 15), [], none⟩])
  (.cond (.t 16) (.seq (.region false [⟨some 4, .mov none (.k (.one (.iv (.int .i64 (-1))))), [], none⟩])
  (.ret)) (.skip)))
  (.seq (.seq (.region false [⟨some 17, .mov none (.t 0), [], none⟩,
    ⟨some 18, .mov none (.t 1), [], none⟩,
    ⟨some 19, .bin .gtr (.t 17) (.t 18), [], none⟩])
  (.cond (.t 19) (.seq (.region false [⟨some 4, .mov none (.k (.one (.iv (.int .i64 1)))), [], none⟩])
  (.ret)) (.skip)))
  (.seq (.region false [⟨some 4, .mov none (.k (.one (.iv (.int .i64 0)))), [], none⟩])
  (.ret))))))))
def v91 : VFn := ⟨2, 20, [.t 4], b91⟩

theorem c91 : chkFn Try.prog 91 v91 = true := by kernel_rfl

/- slices.stableCmpFunc[scholia/api.Write] -/
def l109_0 : VCode := .seq (.seq (.region false [⟨some 11, .mov none (.t 8), [], none⟩,
    ⟨some 12, .mov none (.t 1), [], none⟩,
    ⟨some 13, .bin .leq (.t 11) (.t 12), [], none⟩])
  (.cond (.t 13) (.skip) (.exit 0)))
  (.block 1 (.seq (.region false [⟨some 14, .mov none (.t 0), [], none⟩,
    ⟨some 15, .mov none (.t 7), [], none⟩,
    ⟨some 16, .mov none (.t 8), [], none⟩,
    ⟨some 17, .mov none (.t 2), [], none⟩,
    ⟨some 18, .call 122 [(true, .t 14), (false, .t 15), (false, .t 16), (false, .t 17)], [], none⟩])
  (.seq (.region false [⟨some 19, .mov none (.t 8), [], none⟩,
    ⟨some 7, .mov none (.t 19), [], none⟩])
  (.region false [⟨some 20, .mov none (.t 8), [], none⟩,
    ⟨some 21, .mov none (.t 6), [], none⟩,
    ⟨some 22, .bin .add (.t 20) (.t 21), [], none⟩,
    ⟨some 8, .mov none (.t 22), [], none⟩]))))
def l109_2 : VCode := .seq (.seq (.region false [⟨some 33, .mov none (.t 8), [], none⟩,
    ⟨some 34, .mov none (.t 1), [], none⟩,
    ⟨some 35, .bin .leq (.t 33) (.t 34), [], none⟩])
  (.cond (.t 35) (.skip) (.exit 4)))
  (.block 5 (.seq (.region false [⟨some 36, .mov none (.t 0), [], none⟩,
    ⟨some 37, .mov none (.t 7), [], none⟩,
    ⟨some 38, .mov none (.t 7), [], none⟩,
    ⟨some 39, .mov none (.t 6), [], none⟩,
    ⟨some 40, .bin .add (.t 38) (.t 39), [], none⟩,
    ⟨some 41, .mov none (.t 8), [], none⟩,
    ⟨some 42, .mov none (.t 2), [], none⟩,
    ⟨some 43, .call 131 [(false, .t 36), (false, .t 37), (false, .t 40), (false, .t 41), (false, .t 42)], [], none⟩])
  (.seq (.region false [⟨some 44, .mov none (.t 8), [], none⟩,
    ⟨some 7, .mov none (.t 44), [], none⟩])
  (.region false [⟨some 45, .mov none (.t 8), [], none⟩,
    ⟨some 46, .mov none (.t 6), [], none⟩,
    ⟨some 47, .bin .mul (.k (.one (.iv (.int .i64 2)))) (.t 46), [], none⟩,
    ⟨some 48, .bin .add (.t 45) (.t 47), [], none⟩,
    ⟨some 8, .mov none (.t 48), [], none⟩]))))
def l109_1 : VCode := .seq (.seq (.region false [⟨some 28, .mov none (.t 6), [], none⟩,
    ⟨some 29, .mov none (.t 1), [], none⟩,
    ⟨some 30, .bin .lss (.t 28) (.t 29), [], none⟩])
  (.cond (.t 30) (.skip) (.exit 2)))
  (.block 3 (.seq (.region false [⟨some 31, .mov none (.t 6), [], none⟩,
    ⟨some 32, .bin .mul (.k (.one (.iv (.int .i64 2)))) (.t 31), [], none⟩,
    ⟨some 7, .mov none (.k (.one (.iv (.int .i64 0)))), [], none⟩,
    ⟨some 8, .mov none (.t 32), [], none⟩])
  (.seq (.block 4 (.loop false [0, 1, 2, 6, 7, 8] l109_2))
  (.seq (.seq (.region false [⟨some 49, .mov none (.t 7), [], none⟩,
    ⟨some 50, .mov none (.t 6), [], none⟩,
    ⟨some 51, .bin .add (.t 49) (.t 50), [], none⟩,
    ⟨some 9, .mov none (.t 51), [], none⟩])
  (.seq (.region false [⟨some 52, .mov none (.t 9), [], none⟩,
    ⟨some 53, .mov none (.t 1), [], none⟩,
    ⟨some 54, .bin .lss (.t 52) (.t 53), [], none⟩])
  (.cond (.t 54) (.region false [⟨some 55, .mov none (.t 0), [], none⟩,
    ⟨some 56, .mov none (.t 7), [], none⟩,
    ⟨some 57, .mov none (.t 9), [], none⟩,
    ⟨some 58, .mov none (.t 1), [], none⟩,
    ⟨some 59, .mov none (.t 2), [], none⟩,
    ⟨some 60, .call 131 [(false, .t 55), (false, .t 56), (false, .t 57), (false, .t 58), (false, .t 59)], [], none⟩]) (.skip))))
  (.region false [⟨some 61, .mov none (.t 6), [], none⟩,
    ⟨some 62, .bin .mul (.t 61) (.k (.one (.iv (.int .i64 2)))), [], none⟩,
    ⟨some 6, .mov none (.t 62), [], none⟩])))))
def b109 : VCode := .seq (.region false [⟨some 6, .mov none (.k (.one (.iv (.int .i64 20)))), [], none⟩])
  (.seq (.region false [⟨some 10, .mov none (.t 6), [], none⟩,
    ⟨some 7, .mov none (.k (.one (.iv (.int .i64 0)))), [], none⟩,
    ⟨some 8, .mov none (.t 10), [], none⟩])
  (.seq (.block 0 (.loop false [0, 1, 2, 6, 7, 8] l109_0))
  (.seq (.region false [⟨some 23, .mov none (.t 0), [], none⟩,
    ⟨some 24, .mov none (.t 7), [], none⟩,
    ⟨some 25, .mov none (.t 1), [], none⟩,
    ⟨some 26, .mov none (.t 2), [], none⟩,
    ⟨some 27, .call 122 [(true, .t 23), (false, .t 24), (false, .t 25), (false, .t 26)], [], none⟩])
  (.block 2 (.loop false [0, 1, 2, 6] l109_1)))))
def v109 : VFn := ⟨3, 63, [], b109⟩

theorem c109 : chkFn Try.prog 109 v109 = true := by kernel_rfl

/- scholia/utf.first -/
def b110 : VCode := .seq (.region false [⟨some 2, .new [.iv (.int .i64 0), .iv (.int .i64 0), .iv (.int .i64 0)], [], none⟩])
  (.seq (.block 0 (.seq (.region false [⟨some 4, .mov none (.t 0), [], none⟩,
    ⟨some 5, .bin .lss (.t 4) (.k (.one (.iv (.int .u8 128)))), [], none⟩,
    ⟨some 3, .mov none (.t 5), [], none⟩])
  (.cond (.t 3) (.seq (.region false [⟨some 6, .mov none (.t 0), [], none⟩,
    ⟨some 7, .conv .i64 (.t 6), [], none⟩,
    ⟨some 8, .build [.iv (.int .i64 0), .iv (.int .i64 0), .iv (.int .i64 0)] [(0, 1, .k (.one (.iv (.int .i64 1)))), (1, 1, .t 7), (2, 1, .k (.one (.iv (.int .i64 0))))], [], none⟩,
    ⟨none, .store 3 (.t 2) (.t 8), [], none⟩])
  (.ret)) (.seq (.region false [⟨some 10, .mov none (.t 0), [], none⟩,
    ⟨some 11, .bin .lss (.t 10) (.k (.one (.iv (.int .u8 192)))), [], none⟩,
    ⟨some 9, .mov none (.t 11), [], none⟩])
  (.cond (.t 9) (.seq (.region false [⟨some 12, .build [.iv (.int .i64 0), .iv (.int .i64 0), .iv (.int .i64 0)] [], [], none⟩,
    ⟨none, .store 3 (.t 2) (.t 12), [], none⟩])
  (.ret)) (.seq (.region false [⟨some 14, .mov none (.t 0), [], none⟩,
    ⟨some 15, .bin .lss (.t 14) (.k (.one (.iv (.int .u8 224)))), [], none⟩,
    ⟨some 13, .mov none (.t 15), [], none⟩])
  (.cond (.t 13) (.seq (.region false [⟨some 16, .mov none (.t 0), [], none⟩,
    ⟨some 17, .bin .and (.t 16) (.k (.one (.iv (.int .u8 31)))), [], none⟩,
    ⟨some 18, .conv .i64 (.t 17), [], none⟩,
    ⟨some 19, .build [.iv (.int .i64 0), .iv (.int .i64 0), .iv (.int .i64 0)] [(0, 1, .k (.one (.iv (.int .i64 2)))), (1, 1, .t 18), (2, 1, .k (.one (.iv (.int .i64 128))))], [], none⟩,
    ⟨none, .store 3 (.t 2) (.t 19), [], none⟩])
  (.ret)) (.seq (.region false [⟨some 21, .mov none (.t 0), [], none⟩,
    ⟨some 22, .bin .lss (.t 21) (.k (.one (.iv (.int .u8 240)))), [], none⟩,
    ⟨some 20, .mov none (.t 22), [], none⟩])
  (.cond (.t 20) (.seq (.region false [⟨some 23, .mov none (.t 0), [], none⟩,
    ⟨some 24, .bin .and (.t 23) (.k (.one (.iv (.int .u8 15)))), [], none⟩,
    ⟨some 25, .conv .i64 (.t 24), [], none⟩,
    ⟨some 26, .build [.iv (.int .i64 0), .iv (.int .i64 0), .iv (.int .i64 0)] [(0, 1, .k (.one (.iv (.int .i64 3)))), (1, 1, .t 25), (2, 1, .k (.one (.iv (.int .i64 2048))))], [], none⟩,
    ⟨none, .store 3 (.t 2) (.t 26), [], none⟩])
  (.ret)) (.seq (.region false [⟨some 28, .mov none (.t 0), [], none⟩,
    ⟨some 29, .bin .lss (.t 28) (.k (.one (.iv (.int .u8 248)))), [], none⟩,
    ⟨some 27, .mov none (.t 29), [], none⟩])
  (.cond (.t 27) (.seq (.region false [⟨some 30, .mov none (.t 0), [], none⟩,
    ⟨some 31, .bin .and (.t 30) (.k (.one (.iv (.int .u8 7)))), [], none⟩,
    ⟨some 32, .conv .i64 (.t 31), [], none⟩,
    ⟨some 33, .build [.iv (.int .i64 0), .iv (.int .i64 0), .iv (.int .i64 0)] [(0, 1, .k (.one (.iv (.int .i64 4)))), (1, 1, .t 32), (2, 1, .k (.one (.iv (.int .i64 65536))))], [], none⟩,
    ⟨none, .store 3 (.t 2) (.t 33), [], none⟩])
  (.ret)) (.skip))))))))))))
  (.seq (.region false [⟨some 34, .build [.iv (.int .i64 0), .iv (.int .i64 0), .iv (.int .i64 0)] [], [], none⟩,
    ⟨none, .store 3 (.t 2) (.t 34), [], none⟩])
  (.ret)))
def v110 : VFn := ⟨1, 35, [.c 2 true 3], b110⟩

theorem c110 : chkFn Try.prog 110 v110 = true := by kernel_rfl

/- scholia/utf.Sign -/
def b111 : VCode := .seq (.region false [⟨some 2, .mov none (.k (.one (.iv (.bool false)))), [], none⟩])
  (.seq (.region false [⟨some 3, .mov none (.t 0), [], none⟩,
    ⟨some 4, .bin .geq (.t 3) (.k (.one (.iv (.int .i64 0)))), [], none⟩,
    ⟨some 5, .mov none (.t 4), [], none⟩,
    ⟨some 6, .mov none (.t 0), [], some (5, true)⟩,
    ⟨some 7, .bin .leq (.t 6) (.k (.one (.iv (.int .i64 1114111)))), [], some (5, true)⟩,
    ⟨some 8, .pick (.t 5) (.t 7) (.k (.one (.iv (.bool false)))), [], none⟩,
    ⟨some 9, .mov none (.t 8), [], none⟩,
    ⟨some 10, .mov none (.t 0), [], some (9, true)⟩,
    ⟨some 11, .bin .lss (.t 10) (.k (.one (.iv (.int .i64 55296)))), [], some (9, true)⟩,
    ⟨some 12, .mov none (.t 11), [], some (9, true)⟩,
    ⟨some 13, .mov none (.t 0), [], some (12, false)⟩,
    ⟨some 14, .bin .gtr (.t 13) (.k (.one (.iv (.int .i64 57343)))), [], some (12, false)⟩,
    ⟨some 15, .pick (.t 12) (.k (.one (.iv (.bool true)))) (.t 14), [], some (9, true)⟩,
    ⟨some 16, .pick (.t 9) (.t 15) (.k (.one (.iv (.bool false)))), [], none⟩,
    ⟨some 2, .mov none (.t 16), [], none⟩])
  (.ret))
def v111 : VFn := ⟨1, 17, [.t 2], b111⟩

theorem c111 : chkFn Try.prog 111 v111 = true := by kernel_rfl

/- scholia/scholiaref03.value -/
def b112 : VCode := .seq (.region false [⟨some 2, .mov none (.k (.one (.iv (.int .i64 0)))), [], none⟩])
  (.seq (.region false [⟨some 3, .mov none (.t 0), [], none⟩,
    ⟨some 4, .conv .i64 (.t 3), [], none⟩,
    ⟨some 5, .bin .rem (.t 4) (.k (.one (.iv (.int .i64 64)))), [], none⟩,
    ⟨some 2, .mov none (.t 5), [], none⟩])
  (.ret))
def v112 : VFn := ⟨1, 6, [.t 2], b112⟩

theorem c112 : chkFn Try.prog 112 v112 = true := by kernel_rfl

/- scholia/scholiaref03.Bytes -/
def b113 : VCode := .seq (.region false [⟨some 2, .mov none (.k (.one (.iv (.sl true 0 [])))), [], none⟩])
  (.seq (.seq (.region false [⟨some 3, .mov none (.t 0), [], none⟩,
    ⟨some 4, .call 132 [(false, .t 3)], [], none⟩,
    ⟨some 5, .un .not (.t 4), [], none⟩])
  (.cond (.t 5) (.seq (.region false [⟨some 2, .mov none (.k (.one (.iv (.sl true 0 [])))), [], none⟩])
  (.ret)) (.skip)))
  (.seq (.seq (.region false [⟨some 6, .mov none (.t 0), [], none⟩,
    ⟨some 7, .bin .leq (.t 6) (.k (.one (.iv (.int .i64 127)))), [], none⟩])
  (.cond (.t 7) (.seq (.region false [⟨some 8, .mov none (.t 0), [], none⟩,
    ⟨some 9, .conv .u8 (.t 8), [], none⟩,
    ⟨some 10, .mks false 1 [.t 9], [], none⟩,
    ⟨some 2, .mov none (.t 10), [], none⟩])
  (.ret)) (.skip)))
  (.seq (.seq (.region false [⟨some 11, .mov none (.t 0), [], none⟩,
    ⟨some 12, .bin .leq (.t 11) (.k (.one (.iv (.int .i64 2047)))), [], none⟩])
  (.cond (.t 12) (.seq (.region false [⟨some 13, .mov none (.t 0), [], none⟩,
    ⟨some 14, .bin .quo (.t 13) (.k (.one (.iv (.int .i64 64)))), [], none⟩,
    ⟨some 15, .bin .add (.k (.one (.iv (.int .i64 192)))) (.t 14), [], none⟩,
    ⟨some 16, .conv .u8 (.t 15), [], none⟩,
    ⟨some 17, .mov none (.t 0), [], none⟩,
    ⟨some 18, .bin .rem (.t 17) (.k (.one (.iv (.int .i64 64)))), [], none⟩,
    ⟨some 19, .bin .add (.k (.one (.iv (.int .i64 128)))) (.t 18), [], none⟩,
    ⟨some 20, .conv .u8 (.t 19), [], none⟩,
    ⟨some 21, .mks false 1 [.t 16, .t 20], [], none⟩,
    ⟨some 2, .mov none (.t 21), [], none⟩])
  (.ret)) (.skip)))
  (.seq (.seq (.region false [⟨some 22, .mov none (.t 0), [], none⟩,
    ⟨some 23, .bin .leq (.t 22) (.k (.one (.iv (.int .i64 65535)))), [], none⟩])
  (.cond (.t 23) (.seq (.region false [⟨some 24, .mov none (.t 0), [], none⟩,
    ⟨some 25, .bin .quo (.t 24) (.k (.one (.iv (.int .i64 4096)))), [], none⟩,
    ⟨some 26, .bin .add (.k (.one (.iv (.int .i64 224)))) (.t 25), [], none⟩,
    ⟨some 27, .conv .u8 (.t 26), [], none⟩,
    ⟨some 28, .mov none (.t 0), [], none⟩,
    ⟨some 29, .bin .quo (.t 28) (.k (.one (.iv (.int .i64 64)))), [], none⟩,
    ⟨some 30, .bin .rem (.t 29) (.k (.one (.iv (.int .i64 64)))), [], none⟩,
    ⟨some 31, .bin .add (.k (.one (.iv (.int .i64 128)))) (.t 30), [], none⟩,
    ⟨some 32, .conv .u8 (.t 31), [], none⟩,
    ⟨some 33, .mov none (.t 0), [], none⟩,
    ⟨some 34, .bin .rem (.t 33) (.k (.one (.iv (.int .i64 64)))), [], none⟩,
    ⟨some 35, .bin .add (.k (.one (.iv (.int .i64 128)))) (.t 34), [], none⟩,
    ⟨some 36, .conv .u8 (.t 35), [], none⟩,
    ⟨some 37, .mks false 1 [.t 27, .t 32, .t 36], [], none⟩,
    ⟨some 2, .mov none (.t 37), [], none⟩])
  (.ret)) (.skip)))
  (.seq (.region false [⟨some 38, .mov none (.t 0), [], none⟩,
    ⟨some 39, .bin .quo (.t 38) (.k (.one (.iv (.int .i64 262144)))), [], none⟩,
    ⟨some 40, .bin .add (.k (.one (.iv (.int .i64 240)))) (.t 39), [], none⟩,
    ⟨some 41, .conv .u8 (.t 40), [], none⟩,
    ⟨some 42, .mov none (.t 0), [], none⟩,
    ⟨some 43, .bin .quo (.t 42) (.k (.one (.iv (.int .i64 4096)))), [], none⟩,
    ⟨some 44, .bin .rem (.t 43) (.k (.one (.iv (.int .i64 64)))), [], none⟩,
    ⟨some 45, .bin .add (.k (.one (.iv (.int .i64 128)))) (.t 44), [], none⟩,
    ⟨some 46, .conv .u8 (.t 45), [], none⟩,
    ⟨some 47, .mov none (.t 0), [], none⟩,
    ⟨some 48, .bin .quo (.t 47) (.k (.one (.iv (.int .i64 64)))), [], none⟩,
    ⟨some 49, .bin .rem (.t 48) (.k (.one (.iv (.int .i64 64)))), [], none⟩,
    ⟨some 50, .bin .add (.k (.one (.iv (.int .i64 128)))) (.t 49), [], none⟩,
    ⟨some 51, .conv .u8 (.t 50), [], none⟩,
    ⟨some 52, .mov none (.t 0), [], none⟩,
    ⟨some 53, .bin .rem (.t 52) (.k (.one (.iv (.int .i64 64)))), [], none⟩,
    ⟨some 54, .bin .add (.k (.one (.iv (.int .i64 128)))) (.t 53), [], none⟩,
    ⟨some 55, .conv .u8 (.t 54), [], none⟩,
    ⟨some 56, .mks false 1 [.t 41, .t 46, .t 51, .t 55], [], none⟩,
    ⟨some 2, .mov none (.t 56), [], none⟩])
  (.ret))))))
def v113 : VFn := ⟨1, 57, [.t 2], b113⟩

theorem c113 : chkFn Try.prog 113 v113 = true := by kernel_rfl

/- cmp.isNaN[string] -/
def b114 : VCode := .seq (.region false [⟨some 2, .mov none (.k (.one (.iv (.bool false)))), [], none⟩])
  (.seq (.region false [⟨some 3, .mov none (.t 0), [], none⟩,
    ⟨some 4, .mov none (.t 0), [], none⟩,
    ⟨some 5, .bin .neq (.t 3) (.t 4), [], none⟩,
    ⟨some 2, .mov none (.t 5), [], none⟩])
  (.ret))
def v114 : VFn := ⟨1, 6, [.t 2], b114⟩

theorem c114 : chkFn Try.prog 114 v114 = true := by kernel_rfl

/- cmp.isNaN[int] -/
def b115 : VCode := .seq (.region false [⟨some 2, .mov none (.k (.one (.iv (.bool false)))), [], none⟩])
  (.seq (.region false [⟨some 3, .mov none (.t 0), [], none⟩,
    ⟨some 4, .mov none (.t 0), [], none⟩,
    ⟨some 5, .bin .neq (.t 3) (.t 4), [], none⟩,
    ⟨some 2, .mov none (.t 5), [], none⟩])
  (.ret))
def v115 : VFn := ⟨1, 6, [.t 2], b115⟩

theorem c115 : chkFn Try.prog 115 v115 = true := by kernel_rfl

/- slices.insertionSortCmpFunc[scholia/api.Write] -/
def l122_1 : VCode := .seq (.seq (.region true [⟨some 18, .mov none (.t 9), [], none⟩,
    ⟨some 19, .mov none (.t 1), [], none⟩,
    ⟨some 20, .bin .gtr (.t 18) (.t 19), [1, 0], none⟩,
    ⟨some 21, .mov none (.t 20), [2], none⟩,
    ⟨some 22, .mov none (.t 3), [3], some (21, true)⟩,
    ⟨some 23, .mov none (.t 0), [3], some (21, true)⟩,
    ⟨some 24, .mov none (.t 9), [3], some (21, true)⟩,
    ⟨some 25, .ixS 6 (.t 23) (.t 24), [6, 5], some (21, true)⟩,
    ⟨some 26, .load true 6 (.t 25), [7], some (21, true)⟩,
    ⟨some 27, .mov none (.t 0), [3], some (21, true)⟩,
    ⟨some 28, .mov none (.t 9), [3], some (21, true)⟩,
    ⟨some 29, .bin .sub (.t 28) (.k (.one (.iv (.int .i64 1)))), [10], some (21, true)⟩,
    ⟨some 30, .ixS 6 (.t 27) (.t 29), [11, 9], some (21, true)⟩,
    ⟨some 31, .load true 6 (.t 30), [12], some (21, true)⟩,
    ⟨some 32, .callv (.t 22) [(false, .t 26), (false, .t 31)], [13, 8, 4], some (21, true)⟩,
    ⟨some 33, .bin .lss (.t 32) (.k (.one (.iv (.int .i64 0)))), [14], some (21, true)⟩,
    ⟨some 34, .pick (.t 21) (.t 33) (.k (.one (.iv (.bool false)))), [15], none⟩])
  (.cond (.t 34) (.skip) (.exit 2)))
  (.seq (.block 3 (.region true [⟨some 37, .mov none (.t 0), [], none⟩,
    ⟨some 38, .mov none (.t 9), [], none⟩,
    ⟨some 39, .mov none (.t 0), [], none⟩,
    ⟨some 40, .mov none (.t 9), [], none⟩,
    ⟨some 41, .bin .sub (.t 40) (.k (.one (.iv (.int .i64 1)))), [3], none⟩,
    ⟨some 42, .mov none (.t 0), [], none⟩,
    ⟨some 43, .mov none (.t 9), [], none⟩,
    ⟨some 44, .bin .sub (.t 43) (.k (.one (.iv (.int .i64 1)))), [6], none⟩,
    ⟨some 45, .ixS 6 (.t 42) (.t 44), [7, 5], none⟩,
    ⟨some 46, .load true 6 (.t 45), [8], none⟩,
    ⟨some 47, .mov none (.t 0), [], none⟩,
    ⟨some 48, .mov none (.t 9), [], none⟩,
    ⟨some 49, .ixS 6 (.t 47) (.t 48), [11, 10], none⟩,
    ⟨some 50, .load true 6 (.t 49), [12], none⟩,
    ⟨some 51, .ixS 6 (.t 37) (.t 38), [13, 9, 1, 0], none⟩,
    ⟨none, .store 6 (.t 51) (.t 46), [14], none⟩,
    ⟨some 52, .ixS 6 (.t 39) (.t 41), [15, 4, 2], none⟩,
    ⟨none, .store 6 (.t 52) (.t 50), [16], none⟩]))
  (.region false [⟨some 35, .mov none (.t 9), [], none⟩,
    ⟨some 36, .bin .sub (.t 35) (.k (.one (.iv (.int .i64 1)))), [], none⟩,
    ⟨some 9, .mov none (.t 36), [], none⟩]))
def l122_0 : VCode := .seq (.seq (.region false [⟨some 12, .mov none (.t 8), [], none⟩,
    ⟨some 13, .mov none (.t 2), [], none⟩,
    ⟨some 14, .bin .lss (.t 12) (.t 13), [], none⟩])
  (.cond (.t 14) (.skip) (.exit 0)))
  (.seq (.block 1 (.seq (.region false [⟨some 17, .mov none (.t 8), [], none⟩,
    ⟨some 9, .mov none (.t 17), [], none⟩])
  (.block 2 (.loop false [0, 1, 2, 3, 8, 9] l122_1))))
  (.region false [⟨some 15, .mov none (.t 8), [], none⟩,
    ⟨some 16, .bin .add (.t 15) (.k (.one (.iv (.int .i64 1)))), [], none⟩,
    ⟨some 8, .mov none (.t 16), [], none⟩]))
def b122 : VCode := .seq (.region false [⟨some 10, .mov none (.t 1), [], none⟩,
    ⟨some 11, .bin .add (.t 10) (.k (.one (.iv (.int .i64 1)))), [], none⟩,
    ⟨some 8, .mov none (.t 11), [], none⟩])
  (.block 0 (.loop false [0, 1, 2, 3, 8] l122_0))
def v122 : VFn := ⟨4, 53, [], b122⟩

theorem c122 : chkFn Try.prog 122 v122 = true := by kernel_rfl

/- scholia/scholiaref03.Sign -/
def b132 : VCode := .seq (.region false [⟨some 2, .mov none (.k (.one (.iv (.bool false)))), [], none⟩])
  (.seq (.region false [⟨some 3, .mov none (.t 0), [], none⟩,
    ⟨some 4, .bin .geq (.t 3) (.k (.one (.iv (.int .i64 0)))), [], none⟩,
    ⟨some 5, .mov none (.t 4), [], none⟩,
    ⟨some 6, .mov none (.t 0), [], some (5, true)⟩,
    ⟨some 7, .bin .lss (.t 6) (.k (.one (.iv (.int .i64 55296)))), [], some (5, true)⟩,
    ⟨some 8, .pick (.t 5) (.t 7) (.k (.one (.iv (.bool false)))), [], none⟩,
    ⟨some 9, .mov none (.t 8), [], none⟩,
    ⟨some 10, .mov none (.t 0), [], some (9, false)⟩,
    ⟨some 11, .bin .gtr (.t 10) (.k (.one (.iv (.int .i64 57343)))), [], some (9, false)⟩,
    ⟨some 12, .mov none (.t 11), [], some (9, false)⟩,
    ⟨some 13, .mov none (.t 0), [], some (12, true)⟩,
    ⟨some 14, .bin .leq (.t 13) (.k (.one (.iv (.int .i64 1114111)))), [], some (12, true)⟩,
    ⟨some 15, .pick (.t 12) (.t 14) (.k (.one (.iv (.bool false)))), [], some (9, false)⟩,
    ⟨some 16, .pick (.t 9) (.k (.one (.iv (.bool true)))) (.t 15), [], none⟩,
    ⟨some 2, .mov none (.t 16), [], none⟩])
  (.ret))
def v132 : VFn := ⟨1, 17, [.t 2], b132⟩

theorem c132 : chkFn Try.prog 132 v132 = true := by kernel_rfl

def tab : List (Nat × VFn) := [(3, v3), (9, v9), (10, v10), (11, v11), (12, v12), (13, v13), (14, v14), (15, v15), (16, v16), (19, v19), (36, v36), (37, v37), (38, v38), (39, v39), (40, v40), (41, v41), (42, v42), (47, v47), (48, v48), (49, v49), (50, v50), (51, v51), (52, v52), (53, v53), (54, v54), (55, v55), (81, v81), (82, v82), (83, v83), (84, v84), (85, v85), (86, v86), (87, v87), (88, v88), (89, v89), (90, v90), (91, v91), (109, v109), (110, v110), (111, v111), (112, v112), (113, v113), (114, v114), (115, v115), (122, v122), (132, v132)]

theorem tab_ok : TabOK Try.prog (lookT tab) := tabOK_cons c3 (tabOK_cons c9 (tabOK_cons c10 (tabOK_cons c11 (tabOK_cons c12 (tabOK_cons c13 (tabOK_cons c14 (tabOK_cons c15 (tabOK_cons c16 (tabOK_cons c19 (tabOK_cons c36 (tabOK_cons c37 (tabOK_cons c38 (tabOK_cons c39 (tabOK_cons c40 (tabOK_cons c41 (tabOK_cons c42 (tabOK_cons c47 (tabOK_cons c48 (tabOK_cons c49 (tabOK_cons c50 (tabOK_cons c51 (tabOK_cons c52 (tabOK_cons c53 (tabOK_cons c54 (tabOK_cons c55 (tabOK_cons c81 (tabOK_cons c82 (tabOK_cons c83 (tabOK_cons c84 (tabOK_cons c85 (tabOK_cons c86 (tabOK_cons c87 (tabOK_cons c88 (tabOK_cons c89 (tabOK_cons c90 (tabOK_cons c91 (tabOK_cons c109 (tabOK_cons c110 (tabOK_cons c111 (tabOK_cons c112 (tabOK_cons c113 (tabOK_cons c114 (tabOK_cons c115 (tabOK_cons c122 (tabOK_cons c132 tabOK_nil)))))))))))))))))))))))))))))))))))))))))))))

def clones : List (Nat × Nat × Nat) := [(46, 6, 64)]

theorem clones_ok : chkClones Try.prog clones = true := by kernel_rfl

theorem mixed : Try.prog.follows .mixedOrders = true := by kernel_rfl

theorem pr_ok : PrOK Try.prog (fun _ => clonePr clones) := fun _ _ _ => clonePr_ok mixed clones_ok

theorem pr_mono : PrMono (fun _ => clonePr clones) := const_mono

abbrev Pl (f : Nat) (vs : List FV) (v : FV) (bs : List Blk) : Prop := Plays (lookT tab) (fun _ => clonePr clones) f vs [] (v, bs)

end Go.Proofs.Ytanpphoehajcgaa
