/- The code of the functions that a statement reaches, as V-code, checked against the program. Printed by a program. -/
import Derived.Test.YtanpphoehajcgaaV3
import Derived.Test.YtanpphoehajcgaaChecked
import Derived.KernelRfl
set_option maxRecDepth 100000
namespace Go.Proofs.Ytanpphoehajcgaa
open Go GoV

/- scholia/scholialaw12.DocsBack -/
def b6 : VCode := .seq (.region false [⟨some 2, .box (.t 0), [], none⟩,
    ⟨some 4, .mov none (.k (.one (.iv (.bool false)))), [], none⟩])
  (.seq (.seq (.region false [⟨some 6, .load true 65 (.t 2), [], none⟩,
    ⟨some 7, .call 17 [(false, .t 6)], [], none⟩,
    ⟨some 8, .un .not (.t 7), [], none⟩,
    ⟨some 9, .mov none (.t 8), [], none⟩,
    ⟨some 10, .load true 65 (.t 2), [], some (9, false)⟩,
    ⟨some 11, .call 27 [(false, .t 10)], [], some (9, false)⟩,
    ⟨some 12, .un .not (.t 11), [], some (9, false)⟩,
    ⟨some 13, .pick (.t 9) (.k (.one (.iv (.bool true)))) (.t 12), [], none⟩])
  (.cond (.t 13) (.seq (.region false [⟨some 14, .call 10 [], [], none⟩,
    ⟨some 4, .mov none (.t 14), [], none⟩])
  (.ret)) (.skip)))
  (.seq (.region false [⟨some 15, .load true 65 (.t 2), [], none⟩,
    ⟨some 16, .call 29 [(false, .k (.one (.iv (.sl true 0 [])))), (false, .t 15)], [], none⟩,
    ⟨some 17, .mov none (.t 1), [], none⟩,
    ⟨some 18, .blt (.append 1 1) [.t 16, .t 17], [], none⟩,
    ⟨some 19, .call 28 [(false, .t 18)], [], none⟩,
    ⟨some 5, .mov none (.t 19), [], none⟩])
  (.seq (.region true [⟨some 20, .mov none (.t 5), [], none⟩,
    ⟨some 21, .call 30 [(false, .t 20)], [0], none⟩,
    ⟨some 22, .load true 65 (.t 2), [], none⟩,
    ⟨some 23, .call 25 [(false, .t 21), (false, .t 22)], [2, 1], none⟩,
    ⟨some 24, .mov none (.t 23), [3], none⟩,
    ⟨some 25, .mov none (.t 5), [4], some (24, true)⟩,
    ⟨some 26, .call 31 [(false, .t 25)], [5], some (24, true)⟩,
    ⟨some 27, .bin .eql (.t 26) (.k (.one (.iv (.int .i64 0)))), [6], some (24, true)⟩,
    ⟨some 28, .pick (.t 24) (.t 27) (.k (.one (.iv (.bool false)))), [7], none⟩,
    ⟨some 29, .mov none (.t 28), [8], none⟩,
    ⟨some 30, .mov none (.t 5), [9], some (29, true)⟩,
    ⟨some 31, .call 32 [(false, .t 30)], [10], some (29, true)⟩,
    ⟨some 32, .mov none (.t 1), [9], some (29, true)⟩,
    ⟨some 33, .blt .len [.t 32], [12], some (29, true)⟩,
    ⟨some 34, .bin .eql (.t 31) (.t 33), [13, 11], some (29, true)⟩,
    ⟨some 35, .pick (.t 29) (.t 34) (.k (.one (.iv (.bool false)))), [14], none⟩,
    ⟨some 36, .mov none (.t 35), [15], none⟩,
    ⟨some 37, .call 10 [], [16], some (36, true)⟩,
    ⟨some 38, .pick (.t 36) (.t 37) (.k (.one (.iv (.bool false)))), [17], none⟩,
    ⟨some 4, .mov none (.t 38), [18], none⟩])
  (.ret))))
def v6 : VFn := ⟨2, 39, [.t 4], b6⟩

theorem c6 : chkFn Try.prog 6 v6 = true := by kernel_rfl

/- scholia/scholialaw12.awake -/
def b10 : VCode := .seq (.region false [⟨some 0, .mov none (.k (.one (.iv (.bool false)))), [], none⟩])
  (.seq (.region false [⟨some 8, .build [.iv (.int .i64 0), .iv (.int .i64 0)] [(0, 1, .k (.one (.iv (.int .i64 0)))), (1, 1, .k (.one (.iv (.int .i64 1))))], [], none⟩,
    ⟨some 1, .new [.iv (.int .i64 0), .iv (.int .i64 0)], [], none⟩,
    ⟨none, .store 2 (.t 1) (.t 8), [], none⟩])
  (.seq (.region false [⟨some 10, .build [.iv (.arr 64 (List.replicate 64 (.int .i64 0))), .iv (.sl true 0 [])] [], [], none⟩,
    ⟨some 11, .load true 2 (.t 1), [], none⟩,
    ⟨some 12, .build [.iv (.int .i64 0), .iv (.int .i64 0), .iv (.int .i64 0), .iv (.int .i64 0), .iv (.str ⟨#[]⟩), .iv (.int .i64 0), .iv (.str ⟨#[]⟩), .iv (.sl true 0 [])] [(0, 2, .t 11), (2, 1, .k (.one (.iv (.int .i64 1)))), (3, 1, .k (.one (.iv (.int .i64 1)))), (4, 1, .k (.one (.iv (.str ⟨#[97]⟩)))), (5, 1, .k (.one (.iv (.int .i64 1)))), (6, 1, .k (.one (.iv (.str ⟨#[120]⟩))))], [], none⟩,
    ⟨some 13, .call 19 [(false, .t 10), (false, .t 12)], [], none⟩,
    ⟨some 9, .mov none (.t 13), [], none⟩,
    ⟨some 14, .ext 0 (.t 9), [], none⟩,
    ⟨some 15, .ext 1 (.t 9), [], none⟩,
    ⟨some 2, .new [.iv (.arr 64 (List.replicate 64 (.int .i64 0))), .iv (.sl true 0 [])], [], none⟩,
    ⟨none, .store 65 (.t 2) (.t 14), [], none⟩,
    ⟨some 3, .mov none (.t 15), [], none⟩])
  (.seq (.region false [⟨some 17, .load true 65 (.t 2), [], none⟩,
    ⟨some 18, .call 36 [(false, .t 17), (false, .k (.one (.iv (.str ⟨#[97]⟩))))], [], none⟩,
    ⟨some 16, .mov none (.t 18), [], none⟩,
    ⟨some 19, .ext 0 (.t 16), [], none⟩,
    ⟨some 20, .ext 1 (.t 16), [], none⟩,
    ⟨some 4, .new [.iv (.str ⟨#[]⟩), .iv (.arr 4 (List.replicate 4 (.str ⟨#[]⟩)))], [], none⟩,
    ⟨none, .store 5 (.t 4) (.t 19), [], none⟩,
    ⟨some 5, .mov none (.t 20), [], none⟩])
  (.seq (.region false [⟨some 22, .load true 65 (.t 2), [], none⟩,
    ⟨some 23, .build [.iv (.int .i64 0), .iv (.int .i64 0)] [(0, 1, .k (.one (.iv (.int .i64 0)))), (1, 1, .k (.one (.iv (.int .i64 2))))], [], none⟩,
    ⟨some 24, .load true 2 (.t 1), [], none⟩,
    ⟨some 25, .mks false 2 [.t 24], [], none⟩,
    ⟨some 26, .build [.iv (.int .i64 0), .iv (.int .i64 0), .iv (.int .i64 0), .iv (.int .i64 0), .iv (.str ⟨#[]⟩), .iv (.int .i64 0), .iv (.str ⟨#[]⟩), .iv (.sl true 0 [])] [(0, 2, .t 23), (2, 1, .k (.one (.iv (.int .i64 2)))), (3, 1, .k (.one (.iv (.int .i64 2)))), (4, 1, .k (.one (.iv (.str ⟨#[97]⟩)))), (7, 1, .t 25)], [], none⟩,
    ⟨some 27, .call 19 [(false, .t 22), (false, .t 26)], [], none⟩,
    ⟨some 21, .mov none (.t 27), [], none⟩,
    ⟨some 28, .ext 0 (.t 21), [], none⟩,
    ⟨some 29, .ext 1 (.t 21), [], none⟩,
    ⟨some 6, .new [.iv (.arr 64 (List.replicate 64 (.int .i64 0))), .iv (.sl true 0 [])], [], none⟩,
    ⟨none, .store 65 (.t 6) (.t 28), [], none⟩,
    ⟨some 7, .mov none (.t 29), [], none⟩])
  (.seq (.region false [⟨some 30, .mov none (.t 3), [], none⟩,
    ⟨some 31, .bin .eql (.t 30) (.k (.one (.iv (.int .i64 0)))), [], none⟩,
    ⟨some 32, .mov none (.t 31), [], none⟩,
    ⟨some 33, .mov none (.t 7), [], some (32, true)⟩,
    ⟨some 34, .bin .eql (.t 33) (.k (.one (.iv (.int .i64 0)))), [], some (32, true)⟩,
    ⟨some 35, .pick (.t 32) (.t 34) (.k (.one (.iv (.bool false)))), [], none⟩,
    ⟨some 36, .mov none (.t 35), [], none⟩,
    ⟨some 37, .mov none (.t 5), [], some (36, true)⟩,
    ⟨some 38, .pick (.t 36) (.t 37) (.k (.one (.iv (.bool false)))), [], none⟩,
    ⟨some 39, .mov none (.t 38), [], none⟩,
    ⟨some 40, .fad 1 (.t 4), [], some (39, true)⟩,
    ⟨some 41, .ixA 4 1 (.t 40) (.k (.one (.iv (.int .i64 0)))), [], some (39, true)⟩,
    ⟨some 42, .load false 1 (.t 41), [], some (39, true)⟩,
    ⟨some 43, .bin .eql (.t 42) (.k (.one (.iv (.str ⟨#[120]⟩)))), [], some (39, true)⟩,
    ⟨some 44, .pick (.t 39) (.t 43) (.k (.one (.iv (.bool false)))), [], none⟩,
    ⟨some 45, .mov none (.t 44), [], none⟩,
    ⟨some 46, .fad 64 (.t 6), [], some (45, true)⟩,
    ⟨some 47, .load false 1 (.t 46), [], some (45, true)⟩,
    ⟨some 48, .blt .len [.t 47], [], some (45, true)⟩,
    ⟨some 49, .bin .eql (.t 48) (.k (.one (.iv (.int .i64 0)))), [], some (45, true)⟩,
    ⟨some 50, .pick (.t 45) (.t 49) (.k (.one (.iv (.bool false)))), [], none⟩,
    ⟨some 51, .mov none (.t 50), [], none⟩,
    ⟨some 52, .fad 0 (.t 6), [], some (51, true)⟩,
    ⟨some 53, .ixA 64 1 (.t 52) (.k (.one (.iv (.int .i64 0)))), [], some (51, true)⟩,
    ⟨some 54, .load false 1 (.t 53), [], some (51, true)⟩,
    ⟨some 55, .bin .eql (.t 54) (.k (.one (.iv (.int .i64 2)))), [], some (51, true)⟩,
    ⟨some 56, .pick (.t 51) (.t 55) (.k (.one (.iv (.bool false)))), [], none⟩,
    ⟨some 0, .mov none (.t 56), [], none⟩])
  (.ret))))))
def v10 : VFn := ⟨0, 57, [.t 0], b10⟩

theorem c10 : chkFn Try.prog 10 v10 = true := by kernel_rfl

/- scholia/docs.Name -/
def l11_0 : VCode := .seq (.region false [⟨some 16, .bin .lss (.t 15) (.t 14), [], none⟩])
  (.seq (.cond (.t 16) (.skip) (.exit 0))
  (.seq (.block 1 (.seq (.region false [⟨some 17, .ixS 1 (.t 13) (.t 15), [], none⟩,
    ⟨some 18, .load false 1 (.t 17), [], none⟩,
    ⟨some 4, .mov none (.t 18), [], none⟩])
  (.seq (.region false [⟨some 19, .mov none (.t 4), [], none⟩,
    ⟨some 20, .bin .lss (.t 19) (.k (.one (.iv (.int .u8 97)))), [], none⟩,
    ⟨some 21, .mov none (.t 20), [], none⟩,
    ⟨some 22, .mov none (.t 4), [], some (21, false)⟩,
    ⟨some 23, .bin .gtr (.t 22) (.k (.one (.iv (.int .u8 122)))), [], some (21, false)⟩,
    ⟨some 24, .pick (.t 21) (.k (.one (.iv (.bool true)))) (.t 23), [], none⟩,
    ⟨some 25, .mov none (.t 24), [], none⟩,
    ⟨some 26, .mov none (.t 4), [], some (25, true)⟩,
    ⟨some 27, .bin .lss (.t 26) (.k (.one (.iv (.int .u8 48)))), [], some (25, true)⟩,
    ⟨some 28, .mov none (.t 27), [], some (25, true)⟩,
    ⟨some 29, .mov none (.t 4), [], some (28, false)⟩,
    ⟨some 30, .bin .gtr (.t 29) (.k (.one (.iv (.int .u8 57)))), [], some (28, false)⟩,
    ⟨some 31, .pick (.t 28) (.k (.one (.iv (.bool true)))) (.t 30), [], some (25, true)⟩,
    ⟨some 32, .pick (.t 25) (.t 31) (.k (.one (.iv (.bool false)))), [], none⟩,
    ⟨some 33, .mov none (.t 32), [], none⟩,
    ⟨some 34, .mov none (.t 4), [], some (33, true)⟩,
    ⟨some 35, .bin .neq (.t 34) (.k (.one (.iv (.int .u8 45)))), [], some (33, true)⟩,
    ⟨some 36, .pick (.t 33) (.t 35) (.k (.one (.iv (.bool false)))), [], none⟩])
  (.cond (.t 36) (.seq (.region false [⟨some 2, .mov none (.k (.one (.iv (.bool false)))), [], none⟩])
  (.ret)) (.skip)))))
  (.region false [⟨some 37, .bin .add (.t 15) (.k (.one (.iv (.int .i64 1)))), [], none⟩,
    ⟨some 15, .mov none (.t 37), [], none⟩])))
def b11 : VCode := .seq (.region false [⟨some 2, .mov none (.k (.one (.iv (.bool false)))), [], none⟩])
  (.seq (.seq (.region false [⟨some 5, .mov none (.t 0), [], none⟩,
    ⟨some 6, .bin .eql (.t 5) (.k (.one (.iv (.str ⟨#[]⟩)))), [], none⟩,
    ⟨some 7, .mov none (.t 6), [], none⟩,
    ⟨some 8, .mov none (.t 0), [], some (7, false)⟩,
    ⟨some 9, .blt .lenS [.t 8], [], some (7, false)⟩,
    ⟨some 10, .bin .gtr (.t 9) (.k (.one (.iv (.int .i64 12)))), [], some (7, false)⟩,
    ⟨some 11, .pick (.t 7) (.k (.one (.iv (.bool true)))) (.t 10), [], none⟩])
  (.cond (.t 11) (.seq (.region false [⟨some 2, .mov none (.k (.one (.iv (.bool false)))), [], none⟩])
  (.ret)) (.skip)))
  (.seq (.seq (.region false [⟨some 12, .mov none (.t 0), [], none⟩,
    ⟨some 13, .s2b (.t 12), [], none⟩,
    ⟨some 14, .blt .len [.t 13], [], none⟩,
    ⟨some 15, .mov none (.k (.one (.iv (.int .i64 0)))), [], none⟩])
  (.block 0 (.loop false [13, 14, 15] l11_0)))
  (.seq (.region false [⟨some 2, .mov none (.k (.one (.iv (.bool true)))), [], none⟩])
  (.ret))))
def v11 : VFn := ⟨1, 38, [.t 2], b11⟩

theorem c11 : chkFn Try.prog 11 v11 = true := by kernel_rfl

/- scholia/docs.Text -/
def b13 : VCode := .seq (.region false [⟨some 4, .mov none (.k (.one (.iv (.int .i64 0)))), [], none⟩])
  (.seq (.block 0 (.seq (.region false [⟨some 6, .mov none (.t 0), [], none⟩,
    ⟨some 7, .bin .lss (.t 6) (.k (.one (.iv (.int .i64 0)))), [], none⟩,
    ⟨some 8, .mov none (.t 7), [], none⟩,
    ⟨some 9, .mov none (.t 0), [], some (8, false)⟩,
    ⟨some 10, .bin .gtr (.t 9) (.k (.one (.iv (.int .i64 4)))), [], some (8, false)⟩,
    ⟨some 11, .pick (.t 8) (.k (.one (.iv (.bool true)))) (.t 10), [], none⟩,
    ⟨some 12, .mov none (.t 11), [], none⟩,
    ⟨some 13, .mov none (.t 0), [], some (12, false)⟩,
    ⟨some 14, .bin .eql (.t 13) (.k (.one (.iv (.int .i64 0)))), [], some (12, false)⟩,
    ⟨some 15, .mov none (.t 14), [], some (12, false)⟩,
    ⟨some 16, .mov none (.t 1), [], some (15, true)⟩,
    ⟨some 17, .bin .neq (.t 16) (.k (.one (.iv (.str ⟨#[]⟩)))), [], some (15, true)⟩,
    ⟨some 18, .pick (.t 15) (.t 17) (.k (.one (.iv (.bool false)))), [], some (12, false)⟩,
    ⟨some 19, .pick (.t 12) (.k (.one (.iv (.bool true)))) (.t 18), [], none⟩,
    ⟨some 5, .mov none (.t 19), [], none⟩])
  (.cond (.t 5) (.seq (.region false [⟨some 4, .mov none (.k (.one (.iv (.int .i64 1)))), [], none⟩])
  (.ret)) (.seq (.region false [⟨some 21, .mov none (.t 1), [], none⟩,
    ⟨some 22, .blt .lenS [.t 21], [], none⟩,
    ⟨some 23, .bin .gtr (.t 22) (.k (.one (.iv (.int .i64 160)))), [], none⟩,
    ⟨some 20, .mov none (.t 23), [], none⟩])
  (.cond (.t 20) (.seq (.region false [⟨some 4, .mov none (.k (.one (.iv (.int .i64 5)))), [], none⟩])
  (.ret)) (.seq (.region false [⟨some 25, .mov none (.t 1), [], none⟩,
    ⟨some 26, .call 37 [(false, .t 25)], [], none⟩,
    ⟨some 27, .un .not (.t 26), [], none⟩,
    ⟨some 24, .mov none (.t 27), [], none⟩])
  (.cond (.t 24) (.seq (.region false [⟨some 4, .mov none (.k (.one (.iv (.int .i64 7)))), [], none⟩])
  (.ret)) (.skip))))))))
  (.seq (.region false [⟨some 4, .mov none (.k (.one (.iv (.int .i64 0)))), [], none⟩])
  (.ret)))
def v13 : VFn := ⟨2, 28, [.t 4], b13⟩

theorem c13 : chkFn Try.prog 13 v13 = true := by kernel_rfl

/- scholia/docs.Check -/
def b15 : VCode := .seq (.region false [⟨some 1, .box (.t 0), [], none⟩,
    ⟨some 2, .mov none (.k (.one (.iv (.int .i64 0)))), [], none⟩])
  (.seq (.block 0 (.seq (.region false [⟨some 4, .fad 0 (.t 1), [], none⟩,
    ⟨some 5, .load true 2 (.t 4), [], none⟩,
    ⟨some 6, .call 39 [(false, .t 5)], [], none⟩,
    ⟨some 7, .un .not (.t 6), [], none⟩,
    ⟨some 8, .mov none (.t 7), [], none⟩,
    ⟨some 9, .fad 2 (.t 1), [], some (8, false)⟩,
    ⟨some 10, .load false 1 (.t 9), [], some (8, false)⟩,
    ⟨some 11, .bin .lss (.t 10) (.k (.one (.iv (.int .i64 1)))), [], some (8, false)⟩,
    ⟨some 12, .pick (.t 8) (.k (.one (.iv (.bool true)))) (.t 11), [], none⟩,
    ⟨some 13, .mov none (.t 12), [], none⟩,
    ⟨some 14, .fad 2 (.t 1), [], some (13, false)⟩,
    ⟨some 15, .load false 1 (.t 14), [], some (13, false)⟩,
    ⟨some 16, .bin .gtr (.t 15) (.k (.one (.iv (.int .i64 1099511627776)))), [], some (13, false)⟩,
    ⟨some 17, .pick (.t 13) (.k (.one (.iv (.bool true)))) (.t 16), [], none⟩,
    ⟨some 18, .mov none (.t 17), [], none⟩,
    ⟨some 19, .fad 4 (.t 1), [], some (18, false)⟩,
    ⟨some 20, .load false 1 (.t 19), [], some (18, false)⟩,
    ⟨some 21, .call 11 [(false, .t 20)], [], some (18, false)⟩,
    ⟨some 22, .un .not (.t 21), [], some (18, false)⟩,
    ⟨some 23, .pick (.t 18) (.k (.one (.iv (.bool true)))) (.t 22), [], none⟩,
    ⟨some 24, .mov none (.t 23), [], none⟩,
    ⟨some 25, .fad 0 (.t 1), [], some (24, false)⟩,
    ⟨some 26, .load true 2 (.t 25), [], some (24, false)⟩,
    ⟨some 27, .fad 7 (.t 1), [], some (24, false)⟩,
    ⟨some 28, .load false 1 (.t 27), [], some (24, false)⟩,
    ⟨some 29, .call 40 [(false, .t 26), (false, .t 28)], [], some (24, false)⟩,
    ⟨some 30, .un .not (.t 29), [], some (24, false)⟩,
    ⟨some 31, .pick (.t 24) (.k (.one (.iv (.bool true)))) (.t 30), [], none⟩,
    ⟨some 3, .mov none (.t 31), [], none⟩])
  (.cond (.t 3) (.seq (.region false [⟨some 2, .mov none (.k (.one (.iv (.int .i64 1)))), [], none⟩])
  (.ret)) (.seq (.region false [⟨some 33, .fad 3 (.t 1), [], none⟩,
    ⟨some 34, .load false 1 (.t 33), [], none⟩,
    ⟨some 35, .bin .eql (.t 34) (.k (.one (.iv (.int .i64 2)))), [], none⟩,
    ⟨some 36, .mov none (.t 35), [], none⟩,
    ⟨some 37, .fad 5 (.t 1), [], some (36, true)⟩,
    ⟨some 38, .load false 1 (.t 37), [], some (36, true)⟩,
    ⟨some 39, .bin .eql (.t 38) (.k (.one (.iv (.int .i64 0)))), [], some (36, true)⟩,
    ⟨some 40, .pick (.t 36) (.t 39) (.k (.one (.iv (.bool false)))), [], none⟩,
    ⟨some 41, .mov none (.t 40), [], none⟩,
    ⟨some 42, .fad 6 (.t 1), [], some (41, true)⟩,
    ⟨some 43, .load false 1 (.t 42), [], some (41, true)⟩,
    ⟨some 44, .bin .eql (.t 43) (.k (.one (.iv (.str ⟨#[]⟩)))), [], some (41, true)⟩,
    ⟨some 45, .pick (.t 41) (.t 44) (.k (.one (.iv (.bool false)))), [], none⟩,
    ⟨some 32, .mov none (.t 45), [], none⟩])
  (.cond (.t 32) (.seq (.region false [⟨some 2, .mov none (.k (.one (.iv (.int .i64 0)))), [], none⟩])
  (.ret)) (.seq (.region false [⟨some 47, .fad 3 (.t 1), [], none⟩,
    ⟨some 48, .load false 1 (.t 47), [], none⟩,
    ⟨some 49, .bin .neq (.t 48) (.k (.one (.iv (.int .i64 1)))), [], none⟩,
    ⟨some 46, .mov none (.t 49), [], none⟩])
  (.cond (.t 46) (.seq (.region false [⟨some 2, .mov none (.k (.one (.iv (.int .i64 1)))), [], none⟩])
  (.ret)) (.skip))))))))
  (.seq (.region false [⟨some 50, .fad 5 (.t 1), [], none⟩,
    ⟨some 51, .load false 1 (.t 50), [], none⟩,
    ⟨some 52, .fad 6 (.t 1), [], none⟩,
    ⟨some 53, .load false 1 (.t 52), [], none⟩,
    ⟨some 54, .call 13 [(false, .t 51), (false, .t 53)], [], none⟩,
    ⟨some 2, .mov none (.t 54), [], none⟩])
  (.ret)))
def v15 : VFn := ⟨1, 55, [.t 2], b15⟩

theorem c15 : chkFn Try.prog 15 v15 = true := by kernel_rfl

/- scholia/scholiaplain.Small -/
def l17_0 : VCode := .seq (.region false [⟨some 14, .bin .lss (.t 13) (.t 12), [], none⟩])
  (.seq (.cond (.t 14) (.skip) (.exit 0))
  (.seq (.block 1 (.seq (.region false [⟨some 15, .ixS 6 (.t 11) (.t 13), [], none⟩,
    ⟨some 16, .load true 6 (.t 15), [], none⟩,
    ⟨some 5, .new [.iv (.int .i64 0), .iv (.int .i64 0), .iv (.int .i64 0), .iv (.str ⟨#[]⟩), .iv (.int .i64 0), .iv (.str ⟨#[]⟩)], [], none⟩,
    ⟨none, .store 6 (.t 5) (.t 16), [], none⟩])
  (.seq (.region false [⟨some 17, .mov none (.t 3), [], none⟩,
    ⟨some 18, .fad 3 (.t 5), [], none⟩,
    ⟨some 19, .load false 1 (.t 18), [], none⟩,
    ⟨some 20, .blt .lenS [.t 19], [], none⟩,
    ⟨some 21, .blt .min [.t 20, .k (.one (.iv (.int .i64 8192)))], [], none⟩,
    ⟨some 22, .fad 5 (.t 5), [], none⟩,
    ⟨some 23, .load false 1 (.t 22), [], none⟩,
    ⟨some 24, .blt .lenS [.t 23], [], none⟩,
    ⟨some 25, .blt .min [.t 24, .k (.one (.iv (.int .i64 8192)))], [], none⟩,
    ⟨some 26, .bin .add (.t 21) (.t 25), [], none⟩,
    ⟨some 27, .bin .add (.t 17) (.t 26), [], none⟩,
    ⟨some 3, .mov none (.t 27), [], none⟩])
  (.seq (.region false [⟨some 28, .mov none (.t 3), [], none⟩,
    ⟨some 29, .bin .gtr (.t 28) (.k (.one (.iv (.int .i64 8192)))), [], none⟩])
  (.cond (.t 29) (.seq (.region false [⟨some 2, .mov none (.k (.one (.iv (.bool false)))), [], none⟩])
  (.ret)) (.skip))))))
  (.region false [⟨some 30, .bin .add (.t 13) (.k (.one (.iv (.int .i64 1)))), [], none⟩,
    ⟨some 13, .mov none (.t 30), [], none⟩])))
def b17 : VCode := .seq (.region false [⟨some 1, .box (.t 0), [], none⟩,
    ⟨some 2, .mov none (.k (.one (.iv (.bool false)))), [], none⟩])
  (.seq (.seq (.region false [⟨some 6, .fad 64 (.t 1), [], none⟩,
    ⟨some 7, .load false 1 (.t 6), [], none⟩,
    ⟨some 8, .blt .len [.t 7], [], none⟩,
    ⟨some 9, .bin .gtr (.t 8) (.k (.one (.iv (.int .i64 120)))), [], none⟩])
  (.cond (.t 9) (.seq (.region false [⟨some 2, .mov none (.k (.one (.iv (.bool false)))), [], none⟩])
  (.ret)) (.skip)))
  (.seq (.region false [⟨some 3, .mov none (.k (.one (.iv (.int .i64 0)))), [], none⟩])
  (.seq (.seq (.region false [⟨some 10, .fad 64 (.t 1), [], none⟩,
    ⟨some 11, .load false 1 (.t 10), [], none⟩,
    ⟨some 12, .blt .len [.t 11], [], none⟩,
    ⟨some 13, .mov none (.k (.one (.iv (.int .i64 0)))), [], none⟩])
  (.block 0 (.loop false [3, 11, 12, 13] l17_0)))
  (.seq (.region false [⟨some 2, .mov none (.k (.one (.iv (.bool true)))), [], none⟩])
  (.ret)))))
def v17 : VFn := ⟨1, 31, [.t 2], b17⟩

theorem c17 : chkFn Try.prog 17 v17 = true := by kernel_rfl

/- scholia/docs.Apply -/
def b19 : VCode := .seq (.region false [⟨some 2, .box (.t 0), [], none⟩,
    ⟨some 3, .box (.t 1), [], none⟩,
    ⟨some 4, .new [.iv (.arr 64 (List.replicate 64 (.int .i64 0))), .iv (.sl true 0 [])], [], none⟩,
    ⟨some 5, .mov none (.k (.one (.iv (.int .i64 0)))), [], none⟩])
  (.seq (.region true [⟨some 10, .fad 0 (.t 2), [], none⟩,
    ⟨some 11, .load true 64 (.t 10), [0], none⟩,
    ⟨some 12, .fad 64 (.t 2), [], none⟩,
    ⟨some 13, .load false 1 (.t 12), [2], none⟩,
    ⟨some 14, .call 46 [(false, .t 13)], [3], none⟩,
    ⟨some 15, .build [.iv (.arr 64 (List.replicate 64 (.int .i64 0))), .iv (.sl true 0 [])] [(0, 64, .t 11), (64, 1, .t 14)], [4, 1], none⟩,
    ⟨some 6, .new [.iv (.arr 64 (List.replicate 64 (.int .i64 0))), .iv (.sl true 0 [])], [], none⟩,
    ⟨none, .store 65 (.t 6) (.t 15), [6, 5], none⟩])
  (.seq (.seq (.region false [⟨some 16, .load true 8 (.t 3), [], none⟩,
    ⟨some 17, .call 15 [(false, .t 16)], [], none⟩,
    ⟨some 7, .mov none (.t 17), [], none⟩])
  (.seq (.region false [⟨some 18, .mov none (.t 7), [], none⟩,
    ⟨some 19, .bin .neq (.t 18) (.k (.one (.iv (.int .i64 0)))), [], none⟩])
  (.cond (.t 19) (.seq (.region false [⟨some 20, .load true 65 (.t 6), [], none⟩,
    ⟨some 21, .mov none (.t 7), [], none⟩,
    ⟨none, .store 65 (.t 4) (.t 20), [], none⟩,
    ⟨some 5, .mov none (.t 21), [], none⟩])
  (.ret)) (.skip))))
  (.seq (.seq (.region false [⟨some 22, .fad 0 (.t 2), [], none⟩,
    ⟨some 23, .load true 64 (.t 22), [], none⟩,
    ⟨some 24, .fad 0 (.t 3), [], none⟩,
    ⟨some 25, .load true 2 (.t 24), [], none⟩,
    ⟨some 26, .call 47 [(false, .t 23), (false, .t 25)], [], none⟩])
  (.cond (.t 26) (.seq (.region false [⟨some 27, .load true 65 (.t 6), [], none⟩,
    ⟨none, .store 65 (.t 4) (.t 27), [], none⟩,
    ⟨some 5, .mov none (.k (.one (.iv (.int .i64 0)))), [], none⟩])
  (.ret)) (.skip)))
  (.seq (.region false [⟨some 28, .fad 0 (.t 2), [], none⟩,
    ⟨some 29, .load true 64 (.t 28), [], none⟩,
    ⟨some 30, .fad 0 (.t 3), [], none⟩,
    ⟨some 31, .load true 2 (.t 30), [], none⟩,
    ⟨some 32, .call 48 [(false, .t 29), (false, .t 31)], [], none⟩,
    ⟨some 33, .fad 0 (.t 6), [], none⟩,
    ⟨none, .store 64 (.t 33) (.t 32), [], none⟩])
  (.seq (.region false [⟨some 34, .fad 64 (.t 6), [], none⟩,
    ⟨some 35, .load false 1 (.t 34), [], none⟩,
    ⟨some 36, .mkf 50 [.t 3], [], none⟩,
    ⟨some 37, .call 49 [(true, .t 35), (false, .t 36)], [], none⟩,
    ⟨some 38, .fad 64 (.t 6), [], none⟩,
    ⟨none, .store 1 (.t 38) (.t 37), [], none⟩])
  (.seq (.seq (.region false [⟨some 39, .fad 3 (.t 3), [], none⟩,
    ⟨some 40, .load false 1 (.t 39), [], none⟩,
    ⟨some 41, .bin .eql (.t 40) (.k (.one (.iv (.int .i64 1)))), [], none⟩])
  (.cond (.t 41) (.seq (.region true [⟨some 43, .fad 64 (.t 6), [], none⟩,
    ⟨some 44, .load false 1 (.t 43), [0], none⟩,
    ⟨some 45, .load true 8 (.t 3), [], none⟩,
    ⟨some 46, .call 53 [(false, .t 45)], [2], none⟩,
    ⟨some 47, .call 52 [(true, .t 44), (false, .t 46), (false, .k (.one (.iv (.fn 54))))], [3, 1], none⟩,
    ⟨some 42, .mov none (.t 47), [4], none⟩,
    ⟨some 48, .ext 0 (.t 42), [5], none⟩,
    ⟨some 49, .ext 1 (.t 42), [5], none⟩,
    ⟨some 8, .mov none (.t 48), [6], none⟩,
    ⟨some 9, .mov none (.t 49), [8, 7], none⟩])
  (.region true [⟨some 50, .fad 64 (.t 6), [], none⟩,
    ⟨some 51, .load false 1 (.t 50), [0], none⟩,
    ⟨some 52, .mov none (.t 8), [], none⟩,
    ⟨some 53, .load true 8 (.t 3), [], none⟩,
    ⟨some 54, .call 53 [(false, .t 53)], [3], none⟩,
    ⟨some 55, .mks false 6 [.t 54], [4], none⟩,
    ⟨some 56, .call 55 [(true, .t 51), (false, .t 52), (false, .t 55)], [5, 2, 1], none⟩,
    ⟨some 57, .fad 64 (.t 6), [6], none⟩,
    ⟨none, .store 1 (.t 57) (.t 56), [7], none⟩])) (.skip)))
  (.seq (.region false [⟨some 58, .load true 65 (.t 6), [], none⟩,
    ⟨none, .store 65 (.t 4) (.t 58), [], none⟩,
    ⟨some 5, .mov none (.k (.one (.iv (.int .i64 0)))), [], none⟩])
  (.ret))))))))
def v19 : VFn := ⟨2, 59, [.c 4 true 65, .t 5], b19⟩

theorem c19 : chkFn Try.prog 19 v19 = true := by kernel_rfl

/- scholia/docs.Same -/
def b25 : VCode := .seq (.region false [⟨some 2, .box (.t 0), [], none⟩,
    ⟨some 3, .box (.t 1), [], none⟩,
    ⟨some 4, .mov none (.k (.one (.iv (.bool false)))), [], none⟩])
  (.seq (.region false [⟨some 5, .fad 0 (.t 2), [], none⟩,
    ⟨some 6, .load true 64 (.t 5), [], none⟩,
    ⟨some 7, .fad 0 (.t 3), [], none⟩,
    ⟨some 8, .load true 64 (.t 7), [], none⟩,
    ⟨some 9, .eqa .eql (List.replicate 64 .int) (.t 6) (.t 8), [], none⟩,
    ⟨some 10, .mov none (.t 9), [], none⟩,
    ⟨some 11, .fad 64 (.t 2), [], some (10, true)⟩,
    ⟨some 12, .load false 1 (.t 11), [], some (10, true)⟩,
    ⟨some 13, .fad 64 (.t 3), [], some (10, true)⟩,
    ⟨some 14, .load false 1 (.t 13), [], some (10, true)⟩,
    ⟨some 15, .call 61 [(false, .t 12), (false, .t 14)], [], some (10, true)⟩,
    ⟨some 16, .pick (.t 10) (.t 15) (.k (.one (.iv (.bool false)))), [], none⟩,
    ⟨some 4, .mov none (.t 16), [], none⟩])
  (.ret))
def v25 : VFn := ⟨2, 17, [.t 4], b25⟩

theorem c25 : chkFn Try.prog 25 v25 = true := by kernel_rfl

/- scholia/docs.Can -/
def l27_0 : VCode := .seq (.region false [⟨some 19, .bin .lss (.t 18) (.t 17), [], none⟩])
  (.seq (.cond (.t 19) (.skip) (.exit 0))
  (.seq (.block 1 (.seq (.region false [⟨some 20, .mov none (.t 18), [], none⟩,
    ⟨some 21, .ixS 6 (.t 16) (.t 18), [], none⟩,
    ⟨some 22, .load true 6 (.t 21), [], none⟩,
    ⟨some 4, .new [.iv (.int .i64 0), .iv (.int .i64 0), .iv (.int .i64 0), .iv (.str ⟨#[]⟩), .iv (.int .i64 0), .iv (.str ⟨#[]⟩)], [], none⟩,
    ⟨some 3, .mov none (.t 20), [], none⟩,
    ⟨none, .store 6 (.t 4) (.t 22), [], none⟩])
  (.seq (.region true [⟨some 23, .load true 65 (.t 1), [], none⟩,
    ⟨some 24, .load true 6 (.t 4), [], none⟩,
    ⟨some 25, .call 64 [(false, .t 23), (false, .t 24)], [1, 0], none⟩,
    ⟨some 26, .un .not (.t 25), [2], none⟩,
    ⟨some 27, .mov none (.t 26), [3], none⟩,
    ⟨some 28, .mov none (.t 3), [4], some (27, false)⟩,
    ⟨some 29, .bin .gtr (.t 28) (.k (.one (.iv (.int .i64 0)))), [5], some (27, false)⟩,
    ⟨some 30, .mov none (.t 29), [6], some (27, false)⟩,
    ⟨some 31, .fad 64 (.t 1), [7], some (30, true)⟩,
    ⟨some 32, .load false 1 (.t 31), [8], some (30, true)⟩,
    ⟨some 33, .mov none (.t 3), [7], some (30, true)⟩,
    ⟨some 34, .bin .sub (.t 33) (.k (.one (.iv (.int .i64 1)))), [10], some (30, true)⟩,
    ⟨some 35, .ixS 6 (.t 32) (.t 34), [11, 9], some (30, true)⟩,
    ⟨some 36, .load true 6 (.t 35), [12], some (30, true)⟩,
    ⟨some 37, .load true 6 (.t 4), [7], some (30, true)⟩,
    ⟨some 38, .call 54 [(false, .t 36), (false, .t 37)], [14, 13], some (30, true)⟩,
    ⟨some 39, .bin .geq (.t 38) (.k (.one (.iv (.int .i64 0)))), [15], some (30, true)⟩,
    ⟨some 40, .pick (.t 30) (.t 39) (.k (.one (.iv (.bool false)))), [16], some (27, false)⟩,
    ⟨some 41, .pick (.t 27) (.k (.one (.iv (.bool true)))) (.t 40), [17], none⟩])
  (.cond (.t 41) (.seq (.region false [⟨some 2, .mov none (.k (.one (.iv (.bool false)))), [], none⟩])
  (.ret)) (.skip)))))
  (.region false [⟨some 42, .bin .add (.t 18) (.k (.one (.iv (.int .i64 1)))), [], none⟩,
    ⟨some 18, .mov none (.t 42), [], none⟩])))
def b27 : VCode := .seq (.region false [⟨some 1, .box (.t 0), [], none⟩,
    ⟨some 2, .mov none (.k (.one (.iv (.bool false)))), [], none⟩])
  (.seq (.seq (.region false [⟨some 5, .fad 0 (.t 1), [], none⟩,
    ⟨some 6, .load true 64 (.t 5), [], none⟩,
    ⟨some 7, .call 63 [(false, .t 6)], [], none⟩,
    ⟨some 8, .un .not (.t 7), [], none⟩,
    ⟨some 9, .mov none (.t 8), [], none⟩,
    ⟨some 10, .fad 64 (.t 1), [], some (9, false)⟩,
    ⟨some 11, .load false 1 (.t 10), [], some (9, false)⟩,
    ⟨some 12, .blt .len [.t 11], [], some (9, false)⟩,
    ⟨some 13, .bin .gtr (.t 12) (.k (.one (.iv (.int .i64 4096)))), [], some (9, false)⟩,
    ⟨some 14, .pick (.t 9) (.k (.one (.iv (.bool true)))) (.t 13), [], none⟩])
  (.cond (.t 14) (.seq (.region false [⟨some 2, .mov none (.k (.one (.iv (.bool false)))), [], none⟩])
  (.ret)) (.skip)))
  (.seq (.seq (.region false [⟨some 15, .fad 64 (.t 1), [], none⟩,
    ⟨some 16, .load false 1 (.t 15), [], none⟩,
    ⟨some 17, .blt .len [.t 16], [], none⟩,
    ⟨some 18, .mov none (.k (.one (.iv (.int .i64 0)))), [], none⟩])
  (.block 0 (.loop false [1, 16, 17, 18] l27_0)))
  (.seq (.region false [⟨some 2, .mov none (.k (.one (.iv (.bool true)))), [], none⟩])
  (.ret))))
def v27 : VFn := ⟨1, 43, [.t 2], b27⟩

theorem c27 : chkFn Try.prog 27 v27 = true := by kernel_rfl

/- scholia/coder.Read -/
def b28 : VCode := .seq (.region false [⟨some 2, .mov none (.k (.one (.iv .nilp))), [], none⟩])
  (.seq (.region false [⟨some 3, .mov none (.t 0), [], none⟩,
    ⟨some 4, .blt (.append 1 1) [.k (.one (.iv (.sl true 0 []))), .t 3], [], none⟩,
    ⟨some 5, .build [.iv (.sl true 0 []), .iv (.int .i64 0), .iv (.bool false)] [(0, 1, .t 4), (2, 1, .k (.one (.iv (.bool true))))], [], none⟩,
    ⟨some 6, .box (.t 5), [], none⟩,
    ⟨some 2, .mov none (.t 6), [], none⟩])
  (.ret))
def v28 : VFn := ⟨1, 7, [.t 2], b28⟩

theorem c28 : chkFn Try.prog 28 v28 = true := by kernel_rfl

/- scholia/docs.Put -/
def l29_0 : VCode := .seq (.region false [⟨some 26, .bin .lss (.t 25) (.t 24), [], none⟩])
  (.seq (.cond (.t 26) (.skip) (.exit 0))
  (.seq (.block 1 (.seq (.region false [⟨some 27, .ixS 6 (.t 23) (.t 25), [], none⟩,
    ⟨some 28, .load true 6 (.t 27), [], none⟩,
    ⟨some 7, .new [.iv (.int .i64 0), .iv (.int .i64 0), .iv (.int .i64 0), .iv (.str ⟨#[]⟩), .iv (.int .i64 0), .iv (.str ⟨#[]⟩)], [], none⟩,
    ⟨none, .store 6 (.t 7) (.t 28), [], none⟩])
  (.seq (.region true [⟨some 29, .mov none (.t 5), [], none⟩,
    ⟨some 30, .fad 0 (.t 7), [], none⟩,
    ⟨some 31, .load true 2 (.t 30), [1], none⟩,
    ⟨some 32, .call 67 [(false, .t 29), (false, .t 31)], [2, 0], none⟩,
    ⟨some 33, .fad 2 (.t 7), [], none⟩,
    ⟨some 34, .load false 1 (.t 33), [4], none⟩,
    ⟨some 35, .call 65 [(false, .t 32), (false, .t 34)], [5, 3], none⟩,
    ⟨some 5, .mov none (.t 35), [6], none⟩])
  (.region true [⟨some 36, .mov none (.t 5), [], none⟩,
    ⟨some 37, .fad 3 (.t 7), [], none⟩,
    ⟨some 38, .load false 1 (.t 37), [1], none⟩,
    ⟨some 39, .call 68 [(false, .t 36), (false, .t 38)], [2, 0], none⟩,
    ⟨some 40, .fad 4 (.t 7), [], none⟩,
    ⟨some 41, .load false 1 (.t 40), [4], none⟩,
    ⟨some 42, .call 65 [(false, .t 39), (false, .t 41)], [5, 3], none⟩,
    ⟨some 43, .fad 5 (.t 7), [], none⟩,
    ⟨some 44, .load false 1 (.t 43), [7], none⟩,
    ⟨some 45, .call 68 [(false, .t 42), (false, .t 44)], [8, 6], none⟩,
    ⟨some 5, .mov none (.t 45), [9], none⟩]))))
  (.region false [⟨some 46, .bin .add (.t 25) (.k (.one (.iv (.int .i64 1)))), [], none⟩,
    ⟨some 25, .mov none (.t 46), [], none⟩])))
def b29 : VCode := .seq (.region false [⟨some 3, .box (.t 1), [], none⟩,
    ⟨some 4, .mov none (.k (.one (.iv (.sl true 0 [])))), [], none⟩])
  (.seq (.region false [⟨some 8, .mov none (.t 0), [], none⟩,
    ⟨some 9, .blt (.append 1 1) [.k (.one (.iv (.sl true 0 []))), .t 8], [], none⟩,
    ⟨some 5, .mov none (.t 9), [], none⟩])
  (.seq (.seq (.region false [⟨some 10, .load true 65 (.t 3), [], none⟩,
    ⟨some 11, .call 27 [(false, .t 10)], [], none⟩,
    ⟨some 12, .un .not (.t 11), [], none⟩])
  (.cond (.t 12) (.seq (.region false [⟨some 13, .mov none (.t 5), [], none⟩,
    ⟨some 4, .mov none (.t 13), [], none⟩])
  (.ret)) (.skip)))
  (.seq (.region true [⟨some 14, .mov none (.t 5), [], none⟩,
    ⟨some 15, .fad 0 (.t 3), [], none⟩,
    ⟨some 16, .load true 64 (.t 15), [1], none⟩,
    ⟨some 17, .call 66 [(false, .t 14), (false, .t 16)], [2, 0], none⟩,
    ⟨some 18, .fad 64 (.t 3), [], none⟩,
    ⟨some 19, .load false 1 (.t 18), [4], none⟩,
    ⟨some 20, .blt .len [.t 19], [5], none⟩,
    ⟨some 21, .call 65 [(false, .t 17), (false, .t 20)], [6, 3], none⟩,
    ⟨some 5, .mov none (.t 21), [7], none⟩])
  (.seq (.seq (.region false [⟨some 22, .fad 64 (.t 3), [], none⟩,
    ⟨some 23, .load false 1 (.t 22), [], none⟩,
    ⟨some 24, .blt .len [.t 23], [], none⟩,
    ⟨some 25, .mov none (.k (.one (.iv (.int .i64 0)))), [], none⟩])
  (.block 0 (.loop false [5, 23, 24, 25] l29_0)))
  (.seq (.region false [⟨some 47, .mov none (.t 5), [], none⟩,
    ⟨some 4, .mov none (.t 47), [], none⟩])
  (.ret))))))
def v29 : VFn := ⟨2, 48, [.t 4], b29⟩

theorem c29 : chkFn Try.prog 29 v29 = true := by kernel_rfl

/- scholia/docs.ReadState -/
def l30_0 : VCode := .seq (.seq (.region false [⟨some 11, .mov none (.t 4), [], none⟩,
    ⟨some 12, .bin .gtr (.t 11) (.k (.one (.iv (.int .i64 0)))), [], none⟩,
    ⟨some 13, .mov none (.t 12), [], none⟩,
    ⟨some 14, .mov none (.t 0), [], some (13, true)⟩,
    ⟨some 15, .call 31 [(false, .t 14)], [], some (13, true)⟩,
    ⟨some 16, .bin .eql (.t 15) (.k (.one (.iv (.int .i64 0)))), [], some (13, true)⟩,
    ⟨some 17, .pick (.t 13) (.t 16) (.k (.one (.iv (.bool false)))), [], none⟩])
  (.cond (.t 17) (.skip) (.exit 0)))
  (.seq (.block 1 (.seq (.region false [⟨some 20, .mov none (.t 0), [], none⟩,
    ⟨some 21, .call 71 [(false, .t 20)], [], none⟩,
    ⟨some 22, .build [.iv (.int .i64 0), .iv (.int .i64 0), .iv (.int .i64 0), .iv (.str ⟨#[]⟩), .iv (.int .i64 0), .iv (.str ⟨#[]⟩)] [(0, 2, .t 21)], [], none⟩,
    ⟨some 5, .new [.iv (.int .i64 0), .iv (.int .i64 0), .iv (.int .i64 0), .iv (.str ⟨#[]⟩), .iv (.int .i64 0), .iv (.str ⟨#[]⟩)], [], none⟩,
    ⟨none, .store 6 (.t 5) (.t 22), [], none⟩])
  (.seq (.region false [⟨some 23, .mov none (.t 0), [], none⟩,
    ⟨some 24, .call 70 [(false, .t 23), (false, .k (.one (.iv (.int .i64 1099511627776))))], [], none⟩,
    ⟨some 25, .fad 2 (.t 5), [], none⟩,
    ⟨none, .store 1 (.t 25) (.t 24), [], none⟩])
  (.seq (.region false [⟨some 26, .mov none (.t 0), [], none⟩,
    ⟨some 27, .call 72 [(false, .t 26), (false, .k (.one (.iv (.int .i64 12))))], [], none⟩,
    ⟨some 28, .fad 3 (.t 5), [], none⟩,
    ⟨none, .store 1 (.t 28) (.t 27), [], none⟩])
  (.seq (.region false [⟨some 29, .mov none (.t 0), [], none⟩,
    ⟨some 30, .call 70 [(false, .t 29), (false, .k (.one (.iv (.int .i64 4))))], [], none⟩,
    ⟨some 31, .fad 4 (.t 5), [], none⟩,
    ⟨none, .store 1 (.t 31) (.t 30), [], none⟩])
  (.seq (.region false [⟨some 32, .mov none (.t 0), [], none⟩,
    ⟨some 33, .call 72 [(false, .t 32), (false, .k (.one (.iv (.int .i64 160))))], [], none⟩,
    ⟨some 34, .fad 5 (.t 5), [], none⟩,
    ⟨none, .store 1 (.t 34) (.t 33), [], none⟩])
  (.region false [⟨some 35, .fad 64 (.t 3), [], none⟩,
    ⟨some 36, .load false 1 (.t 35), [], none⟩,
    ⟨some 37, .load true 6 (.t 5), [], none⟩,
    ⟨some 38, .mks false 6 [.t 37], [], none⟩,
    ⟨some 39, .blt (.append 6 64) [.t 36, .t 38], [], none⟩,
    ⟨some 40, .fad 64 (.t 3), [], none⟩,
    ⟨none, .store 1 (.t 40) (.t 39), [], none⟩])))))))
  (.region false [⟨some 18, .mov none (.t 4), [], none⟩,
    ⟨some 19, .bin .sub (.t 18) (.k (.one (.iv (.int .i64 1)))), [], none⟩,
    ⟨some 4, .mov none (.t 19), [], none⟩]))
def b30 : VCode := .seq (.region false [⟨some 2, .new [.iv (.arr 64 (List.replicate 64 (.int .i64 0))), .iv (.sl true 0 [])], [], none⟩])
  (.seq (.region false [⟨some 6, .mov none (.t 0), [], none⟩,
    ⟨some 7, .call 69 [(false, .t 6)], [], none⟩,
    ⟨some 8, .build [.iv (.arr 64 (List.replicate 64 (.int .i64 0))), .fresh 6] [(0, 64, .t 7)], [], none⟩,
    ⟨some 3, .new [.iv (.arr 64 (List.replicate 64 (.int .i64 0))), .iv (.sl true 0 [])], [], none⟩,
    ⟨none, .store 65 (.t 3) (.t 8), [], none⟩])
  (.seq (.seq (.region false [⟨some 9, .mov none (.t 0), [], none⟩,
    ⟨some 10, .call 70 [(false, .t 9), (false, .k (.one (.iv (.int .i64 4096))))], [], none⟩,
    ⟨some 4, .mov none (.t 10), [], none⟩])
  (.block 0 (.loop false [0, 2, 3, 4] l30_0)))
  (.seq (.seq (.region false [⟨some 41, .mov none (.t 0), [], none⟩,
    ⟨some 42, .call 31 [(false, .t 41)], [], none⟩,
    ⟨some 43, .bin .eql (.t 42) (.k (.one (.iv (.int .i64 0)))), [], none⟩,
    ⟨some 44, .mov none (.t 43), [], none⟩,
    ⟨some 45, .load true 65 (.t 3), [], some (44, true)⟩,
    ⟨some 46, .call 27 [(false, .t 45)], [], some (44, true)⟩,
    ⟨some 47, .un .not (.t 46), [], some (44, true)⟩,
    ⟨some 48, .pick (.t 44) (.t 47) (.k (.one (.iv (.bool false)))), [], none⟩])
  (.cond (.t 48) (.region false [⟨some 49, .mov none (.t 0), [], none⟩,
    ⟨some 50, .call 73 [(false, .t 49), (false, .k (.one (.iv (.int .i64 3))))], [], none⟩]) (.skip)))
  (.seq (.seq (.region false [⟨some 51, .mov none (.t 0), [], none⟩,
    ⟨some 52, .call 31 [(false, .t 51)], [], none⟩,
    ⟨some 53, .bin .neq (.t 52) (.k (.one (.iv (.int .i64 0)))), [], none⟩])
  (.cond (.t 53) (.seq (.region false [⟨some 54, .build [.iv (.arr 64 (List.replicate 64 (.int .i64 0))), .iv (.sl true 0 [])] [], [], none⟩,
    ⟨none, .store 65 (.t 2) (.t 54), [], none⟩])
  (.ret)) (.skip)))
  (.seq (.region false [⟨some 55, .load true 65 (.t 3), [], none⟩,
    ⟨none, .store 65 (.t 2) (.t 55), [], none⟩])
  (.ret))))))
def v30 : VFn := ⟨1, 56, [.c 2 true 65], b30⟩

theorem c30 : chkFn Try.prog 30 v30 = true := by kernel_rfl

/- (*scholia/coder.In).Err -/
def b31 : VCode := .seq (.region false [⟨some 2, .mov none (.k (.one (.iv (.int .i64 0)))), [], none⟩])
  (.seq (.seq (.region false [⟨some 3, .mov none (.t 0), [], none⟩,
    ⟨some 4, .eqs .eql .ptr (.t 3) (.k (.one (.iv .nilp))), [], none⟩,
    ⟨some 5, .mov none (.t 4), [], none⟩,
    ⟨some 6, .mov none (.t 0), [], some (5, false)⟩,
    ⟨some 7, .nilc (.t 6), [], some (5, false)⟩,
    ⟨some 8, .fad 2 (.t 7), [], some (5, false)⟩,
    ⟨some 9, .load false 1 (.t 8), [], some (5, false)⟩,
    ⟨some 10, .un .not (.t 9), [], some (5, false)⟩,
    ⟨some 11, .pick (.t 5) (.k (.one (.iv (.bool true)))) (.t 10), [], none⟩])
  (.cond (.t 11) (.seq (.region false [⟨some 2, .mov none (.k (.one (.iv (.int .i64 2)))), [], none⟩])
  (.ret)) (.skip)))
  (.seq (.region false [⟨some 12, .mov none (.t 0), [], none⟩,
    ⟨some 13, .nilc (.t 12), [], none⟩,
    ⟨some 14, .fad 1 (.t 13), [], none⟩,
    ⟨some 15, .load false 1 (.t 14), [], none⟩,
    ⟨some 2, .mov none (.t 15), [], none⟩])
  (.ret)))
def v31 : VFn := ⟨1, 16, [.t 2], b31⟩

theorem c31 : chkFn Try.prog 31 v31 = true := by kernel_rfl

/- (*scholia/coder.In).Left -/
def b32 : VCode := .seq (.region false [⟨some 2, .mov none (.k (.one (.iv (.int .i64 0)))), [], none⟩])
  (.seq (.seq (.region false [⟨some 3, .mov none (.t 0), [], none⟩,
    ⟨some 4, .eqs .eql .ptr (.t 3) (.k (.one (.iv .nilp))), [], none⟩])
  (.cond (.t 4) (.seq (.region false [⟨some 2, .mov none (.k (.one (.iv (.int .i64 0)))), [], none⟩])
  (.ret)) (.skip)))
  (.seq (.region false [⟨some 5, .mov none (.t 0), [], none⟩,
    ⟨some 6, .nilc (.t 5), [], none⟩,
    ⟨some 7, .fad 0 (.t 6), [], none⟩,
    ⟨some 8, .load false 1 (.t 7), [], none⟩,
    ⟨some 9, .blt .len [.t 8], [], none⟩,
    ⟨some 2, .mov none (.t 9), [], none⟩])
  (.ret)))
def v32 : VFn := ⟨1, 10, [.t 2], b32⟩

theorem c32 : chkFn Try.prog 32 v32 = true := by kernel_rfl

/- scholia/docs.Read -/
def l36_0 : VCode := .seq (.region false [⟨some 20, .bin .lss (.t 19) (.t 18), [], none⟩])
  (.seq (.cond (.t 20) (.skip) (.exit 0))
  (.seq (.block 1 (.seq (.region false [⟨some 21, .ixS 6 (.t 17) (.t 19), [], none⟩,
    ⟨some 22, .load true 6 (.t 21), [], none⟩,
    ⟨some 9, .new [.iv (.int .i64 0), .iv (.int .i64 0), .iv (.int .i64 0), .iv (.str ⟨#[]⟩), .iv (.int .i64 0), .iv (.str ⟨#[]⟩)], [], none⟩,
    ⟨none, .store 6 (.t 9) (.t 22), [], none⟩])
  (.seq (.region false [⟨some 23, .fad 4 (.t 9), [], none⟩,
    ⟨some 24, .load false 1 (.t 23), [], none⟩,
    ⟨some 25, .bin .geq (.t 24) (.k (.one (.iv (.int .i64 1)))), [], none⟩,
    ⟨some 26, .mov none (.t 25), [], none⟩,
    ⟨some 27, .fad 4 (.t 9), [], some (26, true)⟩,
    ⟨some 28, .load false 1 (.t 27), [], some (26, true)⟩,
    ⟨some 29, .bin .leq (.t 28) (.k (.one (.iv (.int .i64 4)))), [], some (26, true)⟩,
    ⟨some 30, .pick (.t 26) (.t 29) (.k (.one (.iv (.bool false)))), [], none⟩])
  (.cond (.t 30) (.region false [⟨some 31, .fad 4 (.t 9), [], none⟩,
    ⟨some 32, .load false 1 (.t 31), [], none⟩,
    ⟨some 33, .bin .sub (.t 32) (.k (.one (.iv (.int .i64 1)))), [], none⟩,
    ⟨some 34, .fad 5 (.t 9), [], none⟩,
    ⟨some 35, .load false 1 (.t 34), [], none⟩,
    ⟨some 36, .fad 1 (.t 6), [], none⟩,
    ⟨some 37, .ixA 4 1 (.t 36) (.t 33), [], none⟩,
    ⟨none, .store 1 (.t 37) (.t 35), [], none⟩]) (.skip)))))
  (.region false [⟨some 38, .bin .add (.t 19) (.k (.one (.iv (.int .i64 1)))), [], none⟩,
    ⟨some 19, .mov none (.t 38), [], none⟩])))
def b36 : VCode := .seq (.region false [⟨some 2, .box (.t 0), [], none⟩,
    ⟨some 4, .new [.iv (.str ⟨#[]⟩), .iv (.arr 4 (List.replicate 4 (.str ⟨#[]⟩)))], [], none⟩,
    ⟨some 5, .mov none (.k (.one (.iv (.bool false)))), [], none⟩])
  (.seq (.region false [⟨some 10, .mov none (.t 1), [], none⟩,
    ⟨some 11, .build [.iv (.str ⟨#[]⟩), .iv (.arr 4 (List.replicate 4 (.str ⟨#[]⟩)))] [(0, 1, .t 10)], [], none⟩,
    ⟨some 6, .new [.iv (.str ⟨#[]⟩), .iv (.arr 4 (List.replicate 4 (.str ⟨#[]⟩)))], [], none⟩,
    ⟨none, .store 5 (.t 6) (.t 11), [], none⟩])
  (.seq (.region false [⟨some 12, .load true 65 (.t 2), [], none⟩,
    ⟨some 13, .mov none (.t 1), [], none⟩,
    ⟨some 14, .call 81 [(false, .t 12), (false, .t 13), (false, .k (.one (.iv (.int .i64 (-1)))))], [], none⟩,
    ⟨some 7, .mov none (.t 14), [], none⟩])
  (.seq (.region false [⟨some 15, .mov none (.t 7), [], none⟩,
    ⟨some 16, .call 82 [(true, .t 15), (false, .k (.one (.iv (.fn 83))))], [], none⟩])
  (.seq (.seq (.region false [⟨some 17, .mov none (.t 7), [], none⟩,
    ⟨some 18, .blt .len [.t 17], [], none⟩,
    ⟨some 19, .mov none (.k (.one (.iv (.int .i64 0)))), [], none⟩])
  (.block 0 (.loop false [4, 6, 7, 17, 18, 19] l36_0)))
  (.seq (.seq (.region false [⟨some 39, .mov none (.t 7), [], none⟩,
    ⟨some 40, .blt .len [.t 39], [], none⟩,
    ⟨some 41, .bin .eql (.t 40) (.k (.one (.iv (.int .i64 0)))), [], none⟩])
  (.cond (.t 41) (.seq (.region false [⟨some 42, .build [.iv (.str ⟨#[]⟩), .iv (.arr 4 (List.replicate 4 (.str ⟨#[]⟩)))] [], [], none⟩,
    ⟨none, .store 5 (.t 4) (.t 42), [], none⟩,
    ⟨some 5, .mov none (.k (.one (.iv (.bool false)))), [], none⟩])
  (.ret)) (.skip)))
  (.seq (.region false [⟨some 43, .load true 5 (.t 6), [], none⟩,
    ⟨none, .store 5 (.t 4) (.t 43), [], none⟩,
    ⟨some 5, .mov none (.k (.one (.iv (.bool true)))), [], none⟩])
  (.ret)))))))
def v36 : VFn := ⟨2, 44, [.c 4 true 5, .t 5], b36⟩

theorem c36 : chkFn Try.prog 36 v36 = true := by kernel_rfl

/- scholia/utf.Valid -/
def l37_0 : VCode := .seq (.seq (.region false [⟨some 6, .mov none (.t 3), [], none⟩,
    ⟨some 7, .mov none (.t 0), [], none⟩,
    ⟨some 8, .blt .lenS [.t 7], [], none⟩,
    ⟨some 9, .bin .lss (.t 6) (.t 8), [], none⟩])
  (.cond (.t 9) (.skip) (.exit 0)))
  (.block 1 (.seq (.region false [⟨some 11, .mov none (.t 0), [], none⟩,
    ⟨some 12, .mov none (.t 3), [], none⟩,
    ⟨some 13, .call 84 [(false, .t 11), (false, .t 12)], [], none⟩,
    ⟨some 10, .mov none (.t 13), [], none⟩,
    ⟨some 14, .ext 0 (.t 10), [], none⟩,
    ⟨some 15, .ext 1 (.t 10), [], none⟩,
    ⟨some 4, .mov none (.t 14), [], none⟩,
    ⟨some 5, .mov none (.t 15), [], none⟩])
  (.seq (.seq (.region false [⟨some 16, .mov none (.t 4), [], none⟩,
    ⟨some 17, .bin .lss (.t 16) (.k (.one (.iv (.int .i64 0)))), [], none⟩])
  (.cond (.t 17) (.seq (.region false [⟨some 2, .mov none (.k (.one (.iv (.bool false)))), [], none⟩])
  (.ret)) (.skip)))
  (.region false [⟨some 18, .mov none (.t 3), [], none⟩,
    ⟨some 19, .mov none (.t 5), [], none⟩,
    ⟨some 20, .bin .add (.t 18) (.t 19), [], none⟩,
    ⟨some 3, .mov none (.t 20), [], none⟩]))))
def b37 : VCode := .seq (.region false [⟨some 2, .mov none (.k (.one (.iv (.bool false)))), [], none⟩])
  (.seq (.seq (.region false [⟨some 3, .mov none (.k (.one (.iv (.int .i64 0)))), [], none⟩])
  (.block 0 (.loop false [0, 3] l37_0)))
  (.seq (.region false [⟨some 2, .mov none (.k (.one (.iv (.bool true)))), [], none⟩])
  (.ret)))
def v37 : VFn := ⟨1, 21, [.t 2], b37⟩

theorem c37 : chkFn Try.prog 37 v37 = true := by kernel_rfl

/- scholia/dots.Valid -/
def b39 : VCode := .seq (.region false [⟨some 1, .box (.t 0), [], none⟩,
    ⟨some 2, .mov none (.k (.one (.iv (.bool false)))), [], none⟩])
  (.seq (.region false [⟨some 3, .fad 0 (.t 1), [], none⟩,
    ⟨some 4, .load false 1 (.t 3), [], none⟩,
    ⟨some 5, .bin .geq (.t 4) (.k (.one (.iv (.int .i64 0)))), [], none⟩,
    ⟨some 6, .mov none (.t 5), [], none⟩,
    ⟨some 7, .fad 0 (.t 1), [], some (6, true)⟩,
    ⟨some 8, .load false 1 (.t 7), [], some (6, true)⟩,
    ⟨some 9, .bin .lss (.t 8) (.k (.one (.iv (.int .i64 64)))), [], some (6, true)⟩,
    ⟨some 10, .pick (.t 6) (.t 9) (.k (.one (.iv (.bool false)))), [], none⟩,
    ⟨some 11, .mov none (.t 10), [], none⟩,
    ⟨some 12, .fad 1 (.t 1), [], some (11, true)⟩,
    ⟨some 13, .load false 1 (.t 12), [], some (11, true)⟩,
    ⟨some 14, .bin .geq (.t 13) (.k (.one (.iv (.int .i64 1)))), [], some (11, true)⟩,
    ⟨some 15, .pick (.t 11) (.t 14) (.k (.one (.iv (.bool false)))), [], none⟩,
    ⟨some 16, .mov none (.t 15), [], none⟩,
    ⟨some 17, .fad 1 (.t 1), [], some (16, true)⟩,
    ⟨some 18, .load false 1 (.t 17), [], some (16, true)⟩,
    ⟨some 19, .bin .leq (.t 18) (.k (.one (.iv (.int .i64 1073741824)))), [], some (16, true)⟩,
    ⟨some 20, .pick (.t 16) (.t 19) (.k (.one (.iv (.bool false)))), [], none⟩,
    ⟨some 2, .mov none (.t 20), [], none⟩])
  (.ret))
def v39 : VFn := ⟨1, 21, [.t 2], b39⟩

theorem c39 : chkFn Try.prog 39 v39 = true := by kernel_rfl

/- scholia/docs.gone -/
def l40_0 : VCode := .seq (.region false [⟨some 10, .bin .lss (.t 9) (.t 8), [], none⟩])
  (.seq (.cond (.t 10) (.skip) (.exit 0))
  (.seq (.block 1 (.seq (.region false [⟨some 11, .mov none (.t 9), [], none⟩,
    ⟨some 12, .ixS 2 (.t 7) (.t 9), [], none⟩,
    ⟨some 13, .load true 2 (.t 12), [], none⟩,
    ⟨some 6, .new [.iv (.int .i64 0), .iv (.int .i64 0)], [], none⟩,
    ⟨some 5, .mov none (.t 11), [], none⟩,
    ⟨none, .store 2 (.t 6) (.t 13), [], none⟩])
  (.seq (.region true [⟨some 14, .load true 2 (.t 6), [], none⟩,
    ⟨some 15, .call 39 [(false, .t 14)], [0], none⟩,
    ⟨some 16, .un .not (.t 15), [1], none⟩,
    ⟨some 17, .mov none (.t 16), [2], none⟩,
    ⟨some 18, .load true 2 (.t 6), [3], some (17, false)⟩,
    ⟨some 19, .load true 2 (.t 2), [3], some (17, false)⟩,
    ⟨some 20, .eqa .eql ([.int] ++ [.int]) (.t 18) (.t 19), [5, 4], some (17, false)⟩,
    ⟨some 21, .pick (.t 17) (.k (.one (.iv (.bool true)))) (.t 20), [6], none⟩,
    ⟨some 22, .mov none (.t 21), [7], none⟩,
    ⟨some 23, .mov none (.t 5), [8], some (22, false)⟩,
    ⟨some 24, .bin .gtr (.t 23) (.k (.one (.iv (.int .i64 0)))), [9], some (22, false)⟩,
    ⟨some 25, .mov none (.t 24), [10], some (22, false)⟩,
    ⟨some 26, .mov none (.t 1), [11], some (25, true)⟩,
    ⟨some 27, .mov none (.t 5), [11], some (25, true)⟩,
    ⟨some 28, .bin .sub (.t 27) (.k (.one (.iv (.int .i64 1)))), [13], some (25, true)⟩,
    ⟨some 29, .ixS 2 (.t 26) (.t 28), [14, 12], some (25, true)⟩,
    ⟨some 30, .load true 2 (.t 29), [15], some (25, true)⟩,
    ⟨some 31, .load true 2 (.t 6), [11], some (25, true)⟩,
    ⟨some 32, .call 86 [(false, .t 30), (false, .t 31)], [17, 16], some (25, true)⟩,
    ⟨some 33, .bin .geq (.t 32) (.k (.one (.iv (.int .i64 0)))), [18], some (25, true)⟩,
    ⟨some 34, .pick (.t 25) (.t 33) (.k (.one (.iv (.bool false)))), [19], some (22, false)⟩,
    ⟨some 35, .pick (.t 22) (.k (.one (.iv (.bool true)))) (.t 34), [20], none⟩])
  (.cond (.t 35) (.seq (.region false [⟨some 4, .mov none (.k (.one (.iv (.bool false)))), [], none⟩])
  (.ret)) (.skip)))))
  (.region false [⟨some 36, .bin .add (.t 9) (.k (.one (.iv (.int .i64 1)))), [], none⟩,
    ⟨some 9, .mov none (.t 36), [], none⟩])))
def b40 : VCode := .seq (.region false [⟨some 2, .box (.t 0), [], none⟩,
    ⟨some 4, .mov none (.k (.one (.iv (.bool false)))), [], none⟩])
  (.seq (.seq (.region false [⟨some 7, .mov none (.t 1), [], none⟩,
    ⟨some 8, .blt .len [.t 7], [], none⟩,
    ⟨some 9, .mov none (.k (.one (.iv (.int .i64 0)))), [], none⟩])
  (.block 0 (.loop false [1, 2, 7, 8, 9] l40_0)))
  (.seq (.region false [⟨some 37, .mov none (.t 1), [], none⟩,
    ⟨some 38, .blt .len [.t 37], [], none⟩,
    ⟨some 39, .bin .leq (.t 38) (.k (.one (.iv (.int .i64 120)))), [], none⟩,
    ⟨some 4, .mov none (.t 39), [], none⟩])
  (.ret)))
def v40 : VFn := ⟨2, 40, [.t 4], b40⟩

theorem c40 : chkFn Try.prog 40 v40 = true := by kernel_rfl

/- scholia/dots.Has -/
def b47 : VCode := .seq (.region false [⟨some 2, .box (.t 0), [], none⟩,
    ⟨some 3, .box (.t 1), [], none⟩,
    ⟨some 4, .mov none (.k (.one (.iv (.bool false)))), [], none⟩])
  (.seq (.region true [⟨some 5, .load true 2 (.t 3), [], none⟩,
    ⟨some 6, .call 39 [(false, .t 5)], [0], none⟩,
    ⟨some 7, .mov none (.t 6), [1], none⟩,
    ⟨some 8, .fad 1 (.t 3), [2], some (7, true)⟩,
    ⟨some 9, .load false 1 (.t 8), [3], some (7, true)⟩,
    ⟨some 10, .fad 0 (.t 3), [2], some (7, true)⟩,
    ⟨some 11, .load false 1 (.t 10), [5], some (7, true)⟩,
    ⟨some 12, .ixA 64 1 (.t 2) (.t 11), [6], some (7, true)⟩,
    ⟨some 13, .load false 1 (.t 12), [7], some (7, true)⟩,
    ⟨some 14, .bin .leq (.t 9) (.t 13), [8, 4], some (7, true)⟩,
    ⟨some 15, .pick (.t 7) (.t 14) (.k (.one (.iv (.bool false)))), [9], none⟩,
    ⟨some 4, .mov none (.t 15), [10], none⟩])
  (.ret))
def v47 : VFn := ⟨2, 16, [.t 4], b47⟩

theorem c47 : chkFn Try.prog 47 v47 = true := by kernel_rfl

/- scholia/dots.With -/
def b48 : VCode := .seq (.region false [⟨some 2, .box (.t 0), [], none⟩,
    ⟨some 3, .box (.t 1), [], none⟩,
    ⟨some 4, .new [.iv (.arr 64 (List.replicate 64 (.int .i64 0)))], [], none⟩])
  (.seq (.seq (.region false [⟨some 5, .load true 2 (.t 3), [], none⟩,
    ⟨some 6, .call 39 [(false, .t 5)], [], none⟩])
  (.cond (.t 6) (.region true [⟨some 7, .fad 0 (.t 3), [], none⟩,
    ⟨some 8, .load false 1 (.t 7), [0], none⟩,
    ⟨some 9, .fad 0 (.t 3), [], none⟩,
    ⟨some 10, .load false 1 (.t 9), [2], none⟩,
    ⟨some 11, .ixA 64 1 (.t 2) (.t 10), [3], none⟩,
    ⟨some 12, .load false 1 (.t 11), [4], none⟩,
    ⟨some 13, .fad 1 (.t 3), [], none⟩,
    ⟨some 14, .load false 1 (.t 13), [6], none⟩,
    ⟨some 15, .blt .max [.t 12, .t 14], [7, 5], none⟩,
    ⟨some 16, .ixA 64 1 (.t 2) (.t 8), [8, 1], none⟩,
    ⟨none, .store 1 (.t 16) (.t 15), [9], none⟩]) (.skip)))
  (.seq (.region false [⟨some 17, .load true 64 (.t 2), [], none⟩,
    ⟨none, .store 64 (.t 4) (.t 17), [], none⟩])
  (.ret)))
def v48 : VFn := ⟨2, 18, [.c 4 true 64], b48⟩

theorem c48 : chkFn Try.prog 48 v48 = true := by kernel_rfl

/- slices.DeleteFunc[[]scholia/api.Write,scholia/api.Write] -/
def l49_0 : VCode := .seq (.seq (.region false [⟨some 16, .mov none (.t 6), [], none⟩,
    ⟨some 17, .mov none (.t 0), [], none⟩,
    ⟨some 18, .blt .len [.t 17], [], none⟩,
    ⟨some 19, .bin .lss (.t 16) (.t 18), [], none⟩])
  (.cond (.t 19) (.skip) (.exit 0)))
  (.seq (.block 1 (.seq (.region false [⟨some 22, .mov none (.t 0), [], none⟩,
    ⟨some 23, .mov none (.t 6), [], none⟩,
    ⟨some 24, .ixS 6 (.t 22) (.t 23), [], none⟩,
    ⟨some 25, .load true 6 (.t 24), [], none⟩,
    ⟨some 7, .new [.iv (.int .i64 0), .iv (.int .i64 0), .iv (.int .i64 0), .iv (.str ⟨#[]⟩), .iv (.int .i64 0), .iv (.str ⟨#[]⟩)], [], none⟩,
    ⟨none, .store 6 (.t 7) (.t 25), [], none⟩])
  (.seq (.region false [⟨some 26, .mov none (.t 1), [], none⟩,
    ⟨some 27, .load true 6 (.t 7), [], none⟩,
    ⟨some 28, .callv (.t 26) [(false, .t 27)], [], none⟩,
    ⟨some 29, .un .not (.t 28), [], none⟩])
  (.cond (.t 29) (.seq (.region false [⟨some 30, .mov none (.t 0), [], none⟩,
    ⟨some 31, .mov none (.t 5), [], none⟩,
    ⟨some 32, .load true 6 (.t 7), [], none⟩,
    ⟨some 33, .ixS 6 (.t 30) (.t 31), [], none⟩,
    ⟨none, .store 6 (.t 33) (.t 32), [], none⟩])
  (.region false [⟨some 34, .mov none (.t 5), [], none⟩,
    ⟨some 35, .bin .add (.t 34) (.k (.one (.iv (.int .i64 1)))), [], none⟩,
    ⟨some 5, .mov none (.t 35), [], none⟩])) (.skip)))))
  (.region false [⟨some 20, .mov none (.t 6), [], none⟩,
    ⟨some 21, .bin .add (.t 20) (.k (.one (.iv (.int .i64 1)))), [], none⟩,
    ⟨some 6, .mov none (.t 21), [], none⟩]))
def b49 : VCode := .seq (.region false [⟨some 4, .mov none (.k (.one (.iv (.sl true 0 [])))), [], none⟩])
  (.seq (.region false [⟨some 8, .mov none (.t 0), [], none⟩,
    ⟨some 9, .mov none (.t 1), [], none⟩,
    ⟨some 10, .call 87 [(true, .t 8), (false, .t 9)], [], none⟩,
    ⟨some 5, .mov none (.t 10), [], none⟩])
  (.seq (.seq (.region false [⟨some 11, .mov none (.t 5), [], none⟩,
    ⟨some 12, .bin .eql (.t 11) (.k (.one (.iv (.int .i64 (-1))))), [], none⟩])
  (.cond (.t 12) (.seq (.region false [⟨some 13, .mov none (.t 0), [], none⟩,
    ⟨some 4, .mov none (.t 13), [], none⟩])
  (.ret)) (.skip)))
  (.seq (.seq (.region false [⟨some 14, .mov none (.t 5), [], none⟩,
    ⟨some 15, .bin .add (.t 14) (.k (.one (.iv (.int .i64 1)))), [], none⟩,
    ⟨some 6, .mov none (.t 15), [], none⟩])
  (.block 0 (.loop false [0, 1, 5, 6] l49_0)))
  (.seq (.region false [⟨some 36, .mov none (.t 0), [], none⟩,
    ⟨some 37, .mov none (.t 5), [], none⟩,
    ⟨some 38, .slS 6 (.t 36) (some (.t 37)) none none, [], none⟩,
    ⟨none, .blt (.clear [(.int .i64 0), (.int .i64 0), (.int .i64 0), (.str ⟨#[]⟩), (.int .i64 0), (.str ⟨#[]⟩)]) [.t 38], [], none⟩])
  (.seq (.region false [⟨some 39, .mov none (.t 0), [], none⟩,
    ⟨some 40, .mov none (.t 5), [], none⟩,
    ⟨some 41, .slS 6 (.t 39) none (some (.t 40)) none, [], none⟩,
    ⟨some 4, .mov none (.t 41), [], none⟩])
  (.ret))))))
def v49 : VFn := ⟨2, 42, [.t 4], b49⟩

theorem c49 : chkFn Try.prog 49 v49 = true := by kernel_rfl

/- scholia/docs.Apply$1 -/
def b50 : VCode := .seq (.region false [⟨some 2, .box (.t 0), [], none⟩,
    ⟨some 3, .mov none (.k (.one (.iv (.bool false)))), [], none⟩])
  (.seq (.region false [⟨some 4, .fad 7 (.t 1), [], none⟩,
    ⟨some 5, .load false 1 (.t 4), [], none⟩,
    ⟨some 6, .fad 0 (.t 2), [], none⟩,
    ⟨some 7, .load true 2 (.t 6), [], none⟩,
    ⟨some 8, .call 51 [(false, .t 5), (false, .t 7)], [], none⟩,
    ⟨some 3, .mov none (.t 8), [], none⟩])
  (.ret))
def v50 : VFn := ⟨2, 9, [.t 3], b50⟩

theorem c50 : chkFn Try.prog 50 v50 = true := by kernel_rfl

/- slices.Contains[[]scholia/api.Dot,scholia/api.Dot] -/
def b51 : VCode := .seq (.region false [⟨some 3, .box (.t 1), [], none⟩,
    ⟨some 4, .mov none (.k (.one (.iv (.bool false)))), [], none⟩])
  (.seq (.region false [⟨some 5, .mov none (.t 0), [], none⟩,
    ⟨some 6, .load true 2 (.t 3), [], none⟩,
    ⟨some 7, .call 88 [(false, .t 5), (false, .t 6)], [], none⟩,
    ⟨some 8, .bin .geq (.t 7) (.k (.one (.iv (.int .i64 0)))), [], none⟩,
    ⟨some 4, .mov none (.t 8), [], none⟩])
  (.ret))
def v51 : VFn := ⟨2, 9, [.t 4], b51⟩

theorem c51 : chkFn Try.prog 51 v51 = true := by kernel_rfl

/- slices.BinarySearchFunc[[]scholia/api.Write,scholia/api.Write,scholia/api.Write] -/
def l52_0 : VCode := .seq (.seq (.region false [⟨some 15, .mov none (.t 9), [], none⟩,
    ⟨some 16, .mov none (.t 10), [], none⟩,
    ⟨some 17, .bin .lss (.t 15) (.t 16), [], none⟩])
  (.cond (.t 17) (.skip) (.exit 0)))
  (.block 1 (.seq (.region false [⟨some 18, .mov none (.t 9), [], none⟩,
    ⟨some 19, .mov none (.t 10), [], none⟩,
    ⟨some 20, .bin .add (.t 18) (.t 19), [], none⟩,
    ⟨some 21, .conv .u64 (.t 20), [], none⟩,
    ⟨some 22, .bin .shr (.t 21) (.k (.one (.iv (.int .u64 1)))), [], none⟩,
    ⟨some 23, .conv .i64 (.t 22), [], none⟩,
    ⟨some 11, .mov none (.t 23), [], none⟩])
  (.seq (.region true [⟨some 24, .mov none (.t 2), [], none⟩,
    ⟨some 25, .mov none (.t 0), [], none⟩,
    ⟨some 26, .mov none (.t 11), [], none⟩,
    ⟨some 27, .ixS 6 (.t 25) (.t 26), [2, 1], none⟩,
    ⟨some 28, .load true 6 (.t 27), [3], none⟩,
    ⟨some 29, .load true 6 (.t 4), [], none⟩,
    ⟨some 30, .callv (.t 24) [(false, .t 28), (false, .t 29)], [5, 4, 0], none⟩,
    ⟨some 31, .bin .lss (.t 30) (.k (.one (.iv (.int .i64 0)))), [6], none⟩])
  (.cond (.t 31) (.region false [⟨some 32, .mov none (.t 11), [], none⟩,
    ⟨some 33, .bin .add (.t 32) (.k (.one (.iv (.int .i64 1)))), [], none⟩,
    ⟨some 9, .mov none (.t 33), [], none⟩]) (.region false [⟨some 34, .mov none (.t 11), [], none⟩,
    ⟨some 10, .mov none (.t 34), [], none⟩])))))
def b52 : VCode := .seq (.region false [⟨some 4, .box (.t 1), [], none⟩,
    ⟨some 6, .mov none (.k (.one (.iv (.int .i64 0)))), [], none⟩,
    ⟨some 7, .mov none (.k (.one (.iv (.bool false)))), [], none⟩])
  (.seq (.region false [⟨some 12, .mov none (.t 0), [], none⟩,
    ⟨some 13, .blt .len [.t 12], [], none⟩,
    ⟨some 8, .mov none (.t 13), [], none⟩])
  (.seq (.region false [⟨some 14, .mov none (.t 8), [], none⟩,
    ⟨some 9, .mov none (.k (.one (.iv (.int .i64 0)))), [], none⟩,
    ⟨some 10, .mov none (.t 14), [], none⟩])
  (.seq (.block 0 (.loop false [0, 2, 4, 8, 9, 10] l52_0))
  (.seq (.region true [⟨some 35, .mov none (.t 9), [], none⟩,
    ⟨some 36, .mov none (.t 9), [], none⟩,
    ⟨some 37, .mov none (.t 8), [], none⟩,
    ⟨some 38, .bin .lss (.t 36) (.t 37), [2, 1], none⟩,
    ⟨some 39, .mov none (.t 38), [3], none⟩,
    ⟨some 40, .mov none (.t 2), [4], some (39, true)⟩,
    ⟨some 41, .mov none (.t 0), [4], some (39, true)⟩,
    ⟨some 42, .mov none (.t 9), [4], some (39, true)⟩,
    ⟨some 43, .ixS 6 (.t 41) (.t 42), [7, 6], some (39, true)⟩,
    ⟨some 44, .load true 6 (.t 43), [8], some (39, true)⟩,
    ⟨some 45, .load true 6 (.t 4), [4], some (39, true)⟩,
    ⟨some 46, .callv (.t 40) [(false, .t 44), (false, .t 45)], [10, 9, 5], some (39, true)⟩,
    ⟨some 47, .bin .eql (.t 46) (.k (.one (.iv (.int .i64 0)))), [11], some (39, true)⟩,
    ⟨some 48, .pick (.t 39) (.t 47) (.k (.one (.iv (.bool false)))), [12], none⟩,
    ⟨some 6, .mov none (.t 35), [11, 0], none⟩,
    ⟨some 7, .mov none (.t 48), [14, 13], none⟩])
  (.ret)))))
def v52 : VFn := ⟨3, 49, [.t 6, .t 7], b52⟩

theorem c52 : chkFn Try.prog 52 v52 = true := by kernel_rfl

/- scholia/docs.write -/
def b53 : VCode := .seq (.region false [⟨some 1, .box (.t 0), [], none⟩,
    ⟨some 2, .new [.iv (.int .i64 0), .iv (.int .i64 0), .iv (.int .i64 0), .iv (.str ⟨#[]⟩), .iv (.int .i64 0), .iv (.str ⟨#[]⟩)], [], none⟩])
  (.seq (.region false [⟨some 3, .fad 0 (.t 1), [], none⟩,
    ⟨some 4, .load true 2 (.t 3), [], none⟩,
    ⟨some 5, .fad 2 (.t 1), [], none⟩,
    ⟨some 6, .load false 1 (.t 5), [], none⟩,
    ⟨some 7, .fad 4 (.t 1), [], none⟩,
    ⟨some 8, .load false 1 (.t 7), [], none⟩,
    ⟨some 9, .fad 5 (.t 1), [], none⟩,
    ⟨some 10, .load false 1 (.t 9), [], none⟩,
    ⟨some 11, .fad 6 (.t 1), [], none⟩,
    ⟨some 12, .load false 1 (.t 11), [], none⟩,
    ⟨some 13, .build [.iv (.int .i64 0), .iv (.int .i64 0), .iv (.int .i64 0), .iv (.str ⟨#[]⟩), .iv (.int .i64 0), .iv (.str ⟨#[]⟩)] [(0, 2, .t 4), (2, 1, .t 6), (3, 1, .t 8), (4, 1, .t 10), (5, 1, .t 12)], [], none⟩,
    ⟨none, .store 6 (.t 2) (.t 13), [], none⟩])
  (.ret))
def v53 : VFn := ⟨1, 14, [.c 2 true 6], b53⟩

theorem c53 : chkFn Try.prog 53 v53 = true := by kernel_rfl

/- scholia/docs.order -/
def b54 : VCode := .seq (.region false [⟨some 2, .box (.t 0), [], none⟩,
    ⟨some 3, .box (.t 1), [], none⟩,
    ⟨some 4, .mov none (.k (.one (.iv (.int .i64 0)))), [], none⟩])
  (.seq (.region true [⟨some 5, .fad 3 (.t 2), [], none⟩,
    ⟨some 6, .load false 1 (.t 5), [0], none⟩,
    ⟨some 7, .fad 3 (.t 3), [], none⟩,
    ⟨some 8, .load false 1 (.t 7), [2], none⟩,
    ⟨some 9, .call 90 [(false, .t 6), (false, .t 8)], [3, 1], none⟩,
    ⟨some 10, .fad 4 (.t 2), [], none⟩,
    ⟨some 11, .load false 1 (.t 10), [5], none⟩,
    ⟨some 12, .fad 4 (.t 3), [], none⟩,
    ⟨some 13, .load false 1 (.t 12), [7], none⟩,
    ⟨some 14, .call 91 [(false, .t 11), (false, .t 13)], [8, 6, 4], none⟩,
    ⟨some 15, .fad 0 (.t 2), [], none⟩,
    ⟨some 16, .load true 2 (.t 15), [10], none⟩,
    ⟨some 17, .fad 0 (.t 3), [], none⟩,
    ⟨some 18, .load true 2 (.t 17), [12], none⟩,
    ⟨some 19, .call 86 [(false, .t 16), (false, .t 18)], [13, 11, 9], none⟩,
    ⟨some 20, .mks false 1 [.t 9, .t 14, .t 19], [14], none⟩,
    ⟨some 21, .call 89 [(false, .t 20)], [15], none⟩,
    ⟨some 4, .mov none (.t 21), [16], none⟩])
  (.ret))
def v54 : VFn := ⟨2, 22, [.t 4], b54⟩

theorem c54 : chkFn Try.prog 54 v54 = true := by kernel_rfl

/- slices.Insert[[]scholia/api.Write,scholia/api.Write] -/
def b55 : VCode := .seq (.region false [⟨some 6, .mov none (.k (.one (.iv (.sl true 0 [])))), [], none⟩])
  (.seq (.region false [⟨some 10, .mov none (.t 0), [], none⟩,
    ⟨some 11, .mov none (.t 1), [], none⟩,
    ⟨some 12, .slS 6 (.t 10) (some (.t 11)) none none, [], none⟩])
  (.seq (.region false [⟨some 13, .mov none (.t 2), [], none⟩,
    ⟨some 14, .blt .len [.t 13], [], none⟩,
    ⟨some 7, .mov none (.t 14), [], none⟩])
  (.seq (.seq (.region false [⟨some 15, .mov none (.t 7), [], none⟩,
    ⟨some 16, .bin .eql (.t 15) (.k (.one (.iv (.int .i64 0)))), [], none⟩])
  (.cond (.t 16) (.seq (.region false [⟨some 17, .mov none (.t 0), [], none⟩,
    ⟨some 6, .mov none (.t 17), [], none⟩])
  (.ret)) (.skip)))
  (.seq (.region false [⟨some 18, .mov none (.t 0), [], none⟩,
    ⟨some 19, .blt .len [.t 18], [], none⟩,
    ⟨some 8, .mov none (.t 19), [], none⟩])
  (.seq (.seq (.region false [⟨some 20, .mov none (.t 1), [], none⟩,
    ⟨some 21, .mov none (.t 8), [], none⟩,
    ⟨some 22, .bin .eql (.t 20) (.t 21), [], none⟩])
  (.cond (.t 22) (.seq (.region false [⟨some 23, .mov none (.t 0), [], none⟩,
    ⟨some 24, .mov none (.t 2), [], none⟩,
    ⟨some 25, .blt (.append 6 64) [.t 23, .t 24], [], none⟩,
    ⟨some 6, .mov none (.t 25), [], none⟩])
  (.ret)) (.skip)))
  (.bad))))))
def v55 : VFn := ⟨3, 95, [.t 6], b55⟩

theorem c55 : chkFn Try.prog 55 v55 = true := by kernel_rfl

/- slices.Equal[[]scholia/api.Write,scholia/api.Write] -/
def l61_0 : VCode := .seq (.region false [⟨some 14, .bin .lss (.t 13) (.t 12), [], none⟩])
  (.seq (.cond (.t 14) (.skip) (.exit 0))
  (.seq (.block 1 (.seq (.region false [⟨some 15, .mov none (.t 13), [], none⟩,
    ⟨some 5, .mov none (.t 15), [], none⟩])
  (.seq (.region true [⟨some 16, .mov none (.t 0), [], none⟩,
    ⟨some 17, .mov none (.t 5), [], none⟩,
    ⟨some 18, .ixS 6 (.t 16) (.t 17), [1, 0], none⟩,
    ⟨some 19, .load true 6 (.t 18), [2], none⟩,
    ⟨some 20, .mov none (.t 1), [], none⟩,
    ⟨some 21, .mov none (.t 5), [], none⟩,
    ⟨some 22, .ixS 6 (.t 20) (.t 21), [5, 4], none⟩,
    ⟨some 23, .load true 6 (.t 22), [6], none⟩,
    ⟨some 24, .eqa .neq (([.int] ++ [.int]) ++ [.int] ++ [.str] ++ [.int] ++ [.str]) (.t 19) (.t 23), [7, 3], none⟩])
  (.cond (.t 24) (.seq (.region false [⟨some 4, .mov none (.k (.one (.iv (.bool false)))), [], none⟩])
  (.ret)) (.skip)))))
  (.region false [⟨some 25, .bin .add (.t 13) (.k (.one (.iv (.int .i64 1)))), [], none⟩,
    ⟨some 13, .mov none (.t 25), [], none⟩])))
def b61 : VCode := .seq (.region false [⟨some 4, .mov none (.k (.one (.iv (.bool false)))), [], none⟩])
  (.seq (.seq (.region false [⟨some 6, .mov none (.t 0), [], none⟩,
    ⟨some 7, .blt .len [.t 6], [], none⟩,
    ⟨some 8, .mov none (.t 1), [], none⟩,
    ⟨some 9, .blt .len [.t 8], [], none⟩,
    ⟨some 10, .bin .neq (.t 7) (.t 9), [], none⟩])
  (.cond (.t 10) (.seq (.region false [⟨some 4, .mov none (.k (.one (.iv (.bool false)))), [], none⟩])
  (.ret)) (.skip)))
  (.seq (.seq (.region false [⟨some 11, .mov none (.t 0), [], none⟩,
    ⟨some 12, .blt .len [.t 11], [], none⟩,
    ⟨some 13, .mov none (.k (.one (.iv (.int .i64 0)))), [], none⟩])
  (.block 0 (.loop false [0, 1, 12, 13] l61_0)))
  (.seq (.region false [⟨some 4, .mov none (.k (.one (.iv (.bool true)))), [], none⟩])
  (.ret))))
def v61 : VFn := ⟨2, 26, [.t 4], b61⟩

theorem c61 : chkFn Try.prog 61 v61 = true := by kernel_rfl

/- scholia/dots.Good -/
def b63 : VCode := .seq (.region false [⟨some 1, .box (.t 0), [], none⟩,
    ⟨some 2, .mov none (.k (.one (.iv (.bool false)))), [], none⟩])
  (.seq (.region false [⟨some 3, .load true 64 (.t 1), [], none⟩,
    ⟨some 4, .call 97 [(false, .t 3)], [], none⟩,
    ⟨some 2, .mov none (.t 4), [], none⟩])
  (.ret))
def v63 : VFn := ⟨1, 5, [.t 2], b63⟩

theorem c63 : chkFn Try.prog 63 v63 = true := by kernel_rfl

/- scholia/docs.good -/
def b64 : VCode := .seq (.region false [⟨some 2, .box (.t 0), [], none⟩,
    ⟨some 3, .box (.t 1), [], none⟩,
    ⟨some 4, .mov none (.k (.one (.iv (.bool false)))), [], none⟩])
  (.seq (.region false [⟨some 6, .fad 0 (.t 3), [], none⟩,
    ⟨some 7, .load true 2 (.t 6), [], none⟩,
    ⟨some 8, .fad 2 (.t 3), [], none⟩,
    ⟨some 9, .load false 1 (.t 8), [], none⟩,
    ⟨some 10, .fad 3 (.t 3), [], none⟩,
    ⟨some 11, .load false 1 (.t 10), [], none⟩,
    ⟨some 12, .fad 4 (.t 3), [], none⟩,
    ⟨some 13, .load false 1 (.t 12), [], none⟩,
    ⟨some 14, .fad 5 (.t 3), [], none⟩,
    ⟨some 15, .load false 1 (.t 14), [], none⟩,
    ⟨some 16, .build [.iv (.int .i64 0), .iv (.int .i64 0), .iv (.int .i64 0), .iv (.int .i64 0), .iv (.str ⟨#[]⟩), .iv (.int .i64 0), .iv (.str ⟨#[]⟩), .iv (.sl true 0 [])] [(0, 2, .t 7), (2, 1, .t 9), (3, 1, .k (.one (.iv (.int .i64 1)))), (4, 1, .t 11), (5, 1, .t 13), (6, 1, .t 15)], [], none⟩,
    ⟨some 5, .new [.iv (.int .i64 0), .iv (.int .i64 0), .iv (.int .i64 0), .iv (.int .i64 0), .iv (.str ⟨#[]⟩), .iv (.int .i64 0), .iv (.str ⟨#[]⟩), .iv (.sl true 0 [])], [], none⟩,
    ⟨none, .store 8 (.t 5) (.t 16), [], none⟩])
  (.seq (.region false [⟨some 17, .load true 8 (.t 5), [], none⟩,
    ⟨some 18, .call 15 [(false, .t 17)], [], none⟩,
    ⟨some 19, .bin .eql (.t 18) (.k (.one (.iv (.int .i64 0)))), [], none⟩,
    ⟨some 20, .mov none (.t 19), [], none⟩,
    ⟨some 21, .fad 0 (.t 2), [], some (20, true)⟩,
    ⟨some 22, .load true 64 (.t 21), [], some (20, true)⟩,
    ⟨some 23, .fad 0 (.t 3), [], some (20, true)⟩,
    ⟨some 24, .load true 2 (.t 23), [], some (20, true)⟩,
    ⟨some 25, .call 47 [(false, .t 22), (false, .t 24)], [], some (20, true)⟩,
    ⟨some 26, .pick (.t 20) (.t 25) (.k (.one (.iv (.bool false)))), [], none⟩,
    ⟨some 4, .mov none (.t 26), [], none⟩])
  (.ret)))
def v64 : VFn := ⟨2, 27, [.t 4], b64⟩

theorem c64 : chkFn Try.prog 64 v64 = true := by kernel_rfl

/- scholia/coder.Num -/
def l65_0 : VCode := .seq (.seq (.region false [⟨some 41, .mov none (.t 8), [], none⟩,
    ⟨some 42, .bin .geq (.t 41) (.k (.one (.iv (.int .i64 0)))), [], none⟩])
  (.cond (.t 42) (.skip) (.exit 0)))
  (.seq (.block 1 (.region false [⟨some 45, .mov none (.t 7), [], none⟩,
    ⟨some 46, .mov none (.t 5), [], none⟩,
    ⟨some 47, .mov none (.t 8), [], none⟩,
    ⟨some 48, .bin .mul (.k (.one (.iv (.int .i64 8)))) (.t 47), [], none⟩,
    ⟨some 49, .bin .shr (.t 46) (.t 48), [], none⟩,
    ⟨some 50, .conv .u8 (.t 49), [], none⟩,
    ⟨some 51, .mks false 1 [.t 50], [], none⟩,
    ⟨some 52, .blt (.append 1 1) [.t 45, .t 51], [], none⟩,
    ⟨some 7, .mov none (.t 52), [], none⟩]))
  (.region false [⟨some 43, .mov none (.t 8), [], none⟩,
    ⟨some 44, .bin .sub (.t 43) (.k (.one (.iv (.int .i64 1)))), [], none⟩,
    ⟨some 8, .mov none (.t 44), [], none⟩]))
def b65 : VCode := .seq (.region false [⟨some 4, .mov none (.k (.one (.iv (.sl true 0 [])))), [], none⟩])
  (.seq (.region false [⟨some 9, .mov none (.t 1), [], none⟩,
    ⟨some 10, .blt .max [.t 9, .k (.one (.iv (.int .i64 0)))], [], none⟩,
    ⟨some 11, .conv .u64 (.t 10), [], none⟩,
    ⟨some 5, .mov none (.t 11), [], none⟩])
  (.seq (.region false [⟨some 12, .mov none (.t 5), [], none⟩,
    ⟨some 13, .call 98 [(false, .t 12)], [], none⟩,
    ⟨some 6, .mov none (.t 13), [], none⟩])
  (.seq (.region true [⟨some 14, .mov none (.t 0), [], none⟩,
    ⟨some 15, .mov none (.t 0), [], none⟩,
    ⟨some 16, .blt .len [.t 15], [1], none⟩,
    ⟨some 17, .mov none (.t 0), [], none⟩,
    ⟨some 18, .blt .len [.t 17], [3], none⟩,
    ⟨some 19, .slS 1 (.t 14) none (some (.t 16)) (some (.t 18)), [4, 2, 0], none⟩,
    ⟨some 20, .mov none (.t 6), [], none⟩,
    ⟨some 21, .bin .shr (.k (.one (.iv (.int .u64 65280)))) (.t 20), [6], none⟩,
    ⟨some 22, .conv .u8 (.t 21), [7], none⟩,
    ⟨some 23, .mks false 1 [.t 22], [8], none⟩,
    ⟨some 24, .blt (.append 1 1) [.t 19, .t 23], [9, 5], none⟩,
    ⟨some 7, .mov none (.t 24), [10], none⟩])
  (.seq (.seq (.region false [⟨some 25, .mov none (.t 6), [], none⟩,
    ⟨some 26, .bin .lss (.t 25) (.k (.one (.iv (.int .i64 8)))), [], none⟩])
  (.cond (.t 26) (.region true [⟨some 27, .mov none (.t 7), [], none⟩,
    ⟨some 28, .mov none (.t 0), [], none⟩,
    ⟨some 29, .blt .len [.t 28], [1], none⟩,
    ⟨some 30, .ixS 1 (.t 27) (.t 29), [2, 0], none⟩,
    ⟨some 31, .load false 1 (.t 30), [3], none⟩,
    ⟨some 32, .mov none (.t 5), [], none⟩,
    ⟨some 33, .mov none (.t 6), [], none⟩,
    ⟨some 34, .bin .mul (.k (.one (.iv (.int .i64 8)))) (.t 33), [6], none⟩,
    ⟨some 35, .bin .shr (.t 32) (.t 34), [7, 5], none⟩,
    ⟨some 36, .conv .u8 (.t 35), [8], none⟩,
    ⟨some 37, .bin .or (.t 31) (.t 36), [9, 4], none⟩,
    ⟨some 38, .ixS 1 (.t 27) (.t 29), [10], none⟩,
    ⟨none, .store 1 (.t 38) (.t 37), [11], none⟩]) (.skip)))
  (.seq (.seq (.region false [⟨some 39, .mov none (.t 6), [], none⟩,
    ⟨some 40, .bin .sub (.t 39) (.k (.one (.iv (.int .i64 1)))), [], none⟩,
    ⟨some 8, .mov none (.t 40), [], none⟩])
  (.block 0 (.loop false [5, 7, 8] l65_0)))
  (.seq (.region false [⟨some 53, .mov none (.t 7), [], none⟩,
    ⟨some 4, .mov none (.t 53), [], none⟩])
  (.ret)))))))
def v65 : VFn := ⟨2, 54, [.t 4], b65⟩

theorem c65 : chkFn Try.prog 65 v65 = true := by kernel_rfl

/- scholia/dots.Put -/
def l66_0 : VCode := .seq (.region false [⟨some 19, .bin .lss (.t 18) (.k (.one (.iv (.int .i64 64)))), [], none⟩])
  (.seq (.cond (.t 19) (.skip) (.exit 0))
  (.seq (.block 1 (.seq (.region false [⟨some 20, .mov none (.t 18), [], none⟩,
    ⟨some 21, .ixV 64 (.t 17) (.t 18), [], none⟩,
    ⟨some 7, .mov none (.t 20), [], none⟩,
    ⟨some 8, .mov none (.t 21), [], none⟩])
  (.seq (.region false [⟨some 22, .mov none (.t 8), [], none⟩,
    ⟨some 23, .bin .gtr (.t 22) (.k (.one (.iv (.int .i64 0)))), [], none⟩])
  (.cond (.t 23) (.region false [⟨some 24, .mov none (.t 6), [], none⟩,
    ⟨some 25, .mov none (.t 7), [], none⟩,
    ⟨some 26, .mks false 1 [.t 25], [], none⟩,
    ⟨some 27, .blt (.append 1 8) [.t 24, .t 26], [], none⟩,
    ⟨some 6, .mov none (.t 27), [], none⟩]) (.skip)))))
  (.region false [⟨some 28, .bin .add (.t 18) (.k (.one (.iv (.int .i64 1)))), [], none⟩,
    ⟨some 18, .mov none (.t 28), [], none⟩])))
def l66_1 : VCode := .seq (.region false [⟨some 35, .bin .lss (.t 34) (.t 33), [], none⟩])
  (.seq (.cond (.t 35) (.skip) (.exit 2))
  (.seq (.block 3 (.seq (.region false [⟨some 36, .ixS 1 (.t 32) (.t 34), [], none⟩,
    ⟨some 37, .load false 1 (.t 36), [], none⟩,
    ⟨some 10, .mov none (.t 37), [], none⟩])
  (.region false [⟨some 38, .mov none (.t 5), [], none⟩,
    ⟨some 39, .mov none (.t 10), [], none⟩,
    ⟨some 40, .ixA 64 1 (.t 3) (.t 39), [], none⟩,
    ⟨some 41, .load false 1 (.t 40), [], none⟩,
    ⟨some 42, .bin .sub (.t 41) (.k (.one (.iv (.int .i64 1)))), [], none⟩,
    ⟨some 43, .call 65 [(false, .t 38), (false, .t 42)], [], none⟩,
    ⟨some 5, .mov none (.t 43), [], none⟩])))
  (.region false [⟨some 44, .bin .add (.t 34) (.k (.one (.iv (.int .i64 1)))), [], none⟩,
    ⟨some 34, .mov none (.t 44), [], none⟩])))
def b66 : VCode := .seq (.region false [⟨some 3, .box (.t 1), [], none⟩,
    ⟨some 4, .mov none (.k (.one (.iv (.sl true 0 [])))), [], none⟩])
  (.seq (.region false [⟨some 11, .mov none (.t 0), [], none⟩,
    ⟨some 12, .blt (.append 1 1) [.k (.one (.iv (.sl true 0 []))), .t 11], [], none⟩,
    ⟨some 5, .mov none (.t 12), [], none⟩])
  (.seq (.seq (.region false [⟨some 13, .load true 64 (.t 3), [], none⟩,
    ⟨some 14, .call 97 [(false, .t 13)], [], none⟩,
    ⟨some 15, .un .not (.t 14), [], none⟩])
  (.cond (.t 15) (.seq (.region false [⟨some 16, .mov none (.t 5), [], none⟩,
    ⟨some 4, .mov none (.t 16), [], none⟩])
  (.ret)) (.skip)))
  (.seq (.region false [⟨some 6, .mov (some 1) (.k (.one (.iv (.sl true 0 [])))), [], none⟩])
  (.seq (.seq (.region false [⟨some 17, .load true 64 (.t 3), [], none⟩,
    ⟨some 18, .mov none (.k (.one (.iv (.int .i64 0)))), [], none⟩])
  (.block 0 (.loop false [3, 5, 6, 17, 18] l66_0)))
  (.seq (.region false [⟨some 29, .mov none (.t 5), [], none⟩,
    ⟨some 30, .mov none (.t 6), [], none⟩,
    ⟨some 31, .call 99 [(false, .t 29), (false, .t 30)], [], none⟩,
    ⟨some 5, .mov none (.t 31), [], none⟩])
  (.seq (.seq (.region false [⟨some 32, .mov none (.t 6), [], none⟩,
    ⟨some 33, .blt .len [.t 32], [], none⟩,
    ⟨some 34, .mov none (.k (.one (.iv (.int .i64 0)))), [], none⟩])
  (.block 2 (.loop false [3, 5, 32, 33, 34] l66_1)))
  (.seq (.region false [⟨some 45, .mov none (.t 5), [], none⟩,
    ⟨some 4, .mov none (.t 45), [], none⟩])
  (.ret))))))))
def v66 : VFn := ⟨2, 46, [.t 4], b66⟩

theorem c66 : chkFn Try.prog 66 v66 = true := by kernel_rfl

/- scholia/docs.PutDot -/
def b67 : VCode := .seq (.region false [⟨some 3, .box (.t 1), [], none⟩,
    ⟨some 4, .mov none (.k (.one (.iv (.sl true 0 [])))), [], none⟩])
  (.seq (.region true [⟨some 5, .mov none (.t 0), [], none⟩,
    ⟨some 6, .fad 0 (.t 3), [], none⟩,
    ⟨some 7, .load false 1 (.t 6), [1], none⟩,
    ⟨some 8, .call 65 [(false, .t 5), (false, .t 7)], [2, 0], none⟩,
    ⟨some 9, .fad 1 (.t 3), [], none⟩,
    ⟨some 10, .load false 1 (.t 9), [4], none⟩,
    ⟨some 11, .call 65 [(false, .t 8), (false, .t 10)], [5, 3], none⟩,
    ⟨some 4, .mov none (.t 11), [6], none⟩])
  (.ret))
def v67 : VFn := ⟨2, 12, [.t 4], b67⟩

theorem c67 : chkFn Try.prog 67 v67 = true := by kernel_rfl

/- scholia/coder.Text -/
def b68 : VCode := .seq (.region false [⟨some 4, .mov none (.k (.one (.iv (.sl true 0 [])))), [], none⟩])
  (.seq (.region false [⟨some 5, .mov none (.t 0), [], none⟩,
    ⟨some 6, .mov none (.t 1), [], none⟩,
    ⟨some 7, .blt .lenS [.t 6], [], none⟩,
    ⟨some 8, .call 65 [(false, .t 5), (false, .t 7)], [], none⟩,
    ⟨some 9, .mov none (.t 1), [], none⟩,
    ⟨some 10, .blt (.append 1 1) [.t 8, .t 9], [], none⟩,
    ⟨some 4, .mov none (.t 10), [], none⟩])
  (.ret))
def v68 : VFn := ⟨2, 11, [.t 4], b68⟩

theorem c68 : chkFn Try.prog 68 v68 = true := by kernel_rfl

/- scholia/dots.Read -/
def l69_0 : VCode := .seq (.region false [⟨some 10, .bin .lss (.t 9) (.t 8), [], none⟩])
  (.seq (.cond (.t 10) (.skip) (.exit 0))
  (.seq (.block 1 (.seq (.region false [⟨some 11, .ixS 1 (.t 7) (.t 9), [], none⟩,
    ⟨some 12, .load false 1 (.t 11), [], none⟩,
    ⟨some 5, .mov none (.t 12), [], none⟩])
  (.region false [⟨some 13, .mov none (.t 5), [], none⟩,
    ⟨some 14, .mov none (.t 0), [], none⟩,
    ⟨some 15, .call 70 [(false, .t 14), (false, .k (.one (.iv (.int .i64 1073741823))))], [], none⟩,
    ⟨some 16, .bin .add (.t 15) (.k (.one (.iv (.int .i64 1)))), [], none⟩,
    ⟨some 17, .ixA 64 1 (.t 3) (.t 13), [], none⟩,
    ⟨none, .store 1 (.t 17) (.t 16), [], none⟩])))
  (.region false [⟨some 18, .bin .add (.t 9) (.k (.one (.iv (.int .i64 1)))), [], none⟩,
    ⟨some 9, .mov none (.t 18), [], none⟩])))
def b69 : VCode := .seq (.region false [⟨some 2, .new [.iv (.arr 64 (List.replicate 64 (.int .i64 0)))], [], none⟩])
  (.seq (.region false [⟨some 3, .new [.iv (.arr 64 (List.replicate 64 (.int .i64 0)))], [], none⟩])
  (.seq (.seq (.region false [⟨some 6, .mov none (.t 0), [], none⟩,
    ⟨some 7, .call 100 [(false, .t 6), (false, .k (.one (.iv (.int .i64 64)))), (false, .k (.one (.iv (.int .i64 63))))], [], none⟩,
    ⟨some 8, .blt .len [.t 7], [], none⟩,
    ⟨some 9, .mov none (.k (.one (.iv (.int .i64 0)))), [], none⟩])
  (.block 0 (.loop false [0, 2, 3, 7, 8, 9] l69_0)))
  (.seq (.seq (.region false [⟨some 19, .mov none (.t 0), [], none⟩,
    ⟨some 20, .call 31 [(false, .t 19)], [], none⟩,
    ⟨some 21, .bin .neq (.t 20) (.k (.one (.iv (.int .i64 0)))), [], none⟩])
  (.cond (.t 21) (.seq (.region false [⟨some 22, .build [.iv (.arr 64 (List.replicate 64 (.int .i64 0)))] [], [], none⟩,
    ⟨none, .store 64 (.t 2) (.t 22), [], none⟩])
  (.ret)) (.skip)))
  (.seq (.region false [⟨some 23, .load true 64 (.t 3), [], none⟩,
    ⟨none, .store 64 (.t 2) (.t 23), [], none⟩])
  (.ret)))))
def v69 : VFn := ⟨1, 24, [.c 2 true 64], b69⟩

theorem c69 : chkFn Try.prog 69 v69 = true := by kernel_rfl

/- (*scholia/coder.In).Num -/
def b70 : VCode := .seq (.region false [⟨some 4, .mov none (.k (.one (.iv (.int .i64 0)))), [], none⟩])
  (.seq (.region false [⟨some 8, .mov none (.t 0), [], none⟩,
    ⟨some 9, .call 101 [(false, .t 8)], [], none⟩,
    ⟨some 7, .mov none (.t 9), [], none⟩,
    ⟨some 10, .ext 0 (.t 7), [], none⟩,
    ⟨some 11, .ext 1 (.t 7), [], none⟩,
    ⟨some 5, .mov none (.t 10), [], none⟩,
    ⟨some 6, .mov none (.t 11), [], none⟩])
  (.seq (.seq (.region false [⟨some 12, .mov none (.t 6), [], none⟩,
    ⟨some 13, .un .not (.t 12), [], none⟩])
  (.cond (.t 13) (.seq (.region false [⟨some 4, .mov none (.k (.one (.iv (.int .i64 0)))), [], none⟩])
  (.ret)) (.skip)))
  (.seq (.seq (.region false [⟨some 14, .mov none (.t 5), [], none⟩,
    ⟨some 15, .bin .shr (.t 14) (.k (.one (.iv (.int .u64 63)))), [], none⟩,
    ⟨some 16, .bin .eql (.t 15) (.k (.one (.iv (.int .u64 1)))), [], none⟩,
    ⟨some 17, .mov none (.t 16), [], none⟩,
    ⟨some 18, .mov none (.t 5), [], some (17, false)⟩,
    ⟨some 19, .conv .i64 (.t 18), [], some (17, false)⟩,
    ⟨some 20, .mov none (.t 1), [], some (17, false)⟩,
    ⟨some 21, .bin .gtr (.t 19) (.t 20), [], some (17, false)⟩,
    ⟨some 22, .pick (.t 17) (.k (.one (.iv (.bool true)))) (.t 21), [], none⟩])
  (.cond (.t 22) (.seq (.region false [⟨some 23, .mov none (.t 0), [], none⟩,
    ⟨some 24, .call 73 [(false, .t 23), (false, .k (.one (.iv (.int .i64 5))))], [], none⟩])
  (.seq (.region false [⟨some 4, .mov none (.k (.one (.iv (.int .i64 0)))), [], none⟩])
  (.ret))) (.skip)))
  (.seq (.region false [⟨some 25, .mov none (.t 5), [], none⟩,
    ⟨some 26, .conv .i64 (.t 25), [], none⟩,
    ⟨some 4, .mov none (.t 26), [], none⟩])
  (.ret)))))
def v70 : VFn := ⟨2, 27, [.t 4], b70⟩

theorem c70 : chkFn Try.prog 70 v70 = true := by kernel_rfl

/- scholia/docs.ReadDot -/
def b71 : VCode := .seq (.region false [⟨some 2, .new [.iv (.int .i64 0), .iv (.int .i64 0)], [], none⟩])
  (.seq (.region false [⟨some 4, .mov none (.t 0), [], none⟩,
    ⟨some 5, .call 70 [(false, .t 4), (false, .k (.one (.iv (.int .i64 63))))], [], none⟩,
    ⟨some 6, .build [.iv (.int .i64 0), .iv (.int .i64 0)] [(0, 1, .t 5)], [], none⟩,
    ⟨some 3, .new [.iv (.int .i64 0), .iv (.int .i64 0)], [], none⟩,
    ⟨none, .store 2 (.t 3) (.t 6), [], none⟩])
  (.seq (.region false [⟨some 7, .mov none (.t 0), [], none⟩,
    ⟨some 8, .call 70 [(false, .t 7), (false, .k (.one (.iv (.int .i64 1073741824))))], [], none⟩,
    ⟨some 9, .fad 1 (.t 3), [], none⟩,
    ⟨none, .store 1 (.t 9) (.t 8), [], none⟩])
  (.seq (.region false [⟨some 10, .load true 2 (.t 3), [], none⟩,
    ⟨none, .store 2 (.t 2) (.t 10), [], none⟩])
  (.ret))))
def v71 : VFn := ⟨1, 11, [.c 2 true 2], b71⟩

theorem c71 : chkFn Try.prog 71 v71 = true := by kernel_rfl

/- (*scholia/coder.In).Text -/
def b72 : VCode := .seq (.region false [⟨some 4, .mov none (.k (.one (.iv (.str ⟨#[]⟩)))), [], none⟩])
  (.seq (.region false [⟨some 8, .mov none (.t 0), [], none⟩,
    ⟨some 9, .mov none (.t 0), [], none⟩,
    ⟨some 10, .mov none (.t 1), [], none⟩,
    ⟨some 11, .call 70 [(false, .t 9), (false, .t 10)], [], none⟩,
    ⟨some 12, .call 102 [(false, .t 8), (false, .t 11)], [], none⟩,
    ⟨some 7, .mov none (.t 12), [], none⟩,
    ⟨some 13, .ext 0 (.t 7), [], none⟩,
    ⟨some 14, .ext 1 (.t 7), [], none⟩,
    ⟨some 5, .mov none (.t 13), [], none⟩,
    ⟨some 6, .mov none (.t 14), [], none⟩])
  (.seq (.region false [⟨some 15, .mov none (.t 5), [], none⟩,
    ⟨some 16, .b2s (.t 15), [], none⟩,
    ⟨some 4, .mov none (.t 16), [], none⟩])
  (.ret)))
def v72 : VFn := ⟨2, 17, [.t 4], b72⟩

theorem c72 : chkFn Try.prog 72 v72 = true := by kernel_rfl

/- (*scholia/coder.In).Fail -/
def b73 : VCode := .seq (.seq (.region false [⟨some 4, .mov none (.t 0), [], none⟩,
    ⟨some 5, .eqs .eql .ptr (.t 4) (.k (.one (.iv .nilp))), [], none⟩,
    ⟨some 6, .mov none (.t 5), [], none⟩,
    ⟨some 7, .mov none (.t 0), [], some (6, false)⟩,
    ⟨some 8, .nilc (.t 7), [], some (6, false)⟩,
    ⟨some 9, .fad 2 (.t 8), [], some (6, false)⟩,
    ⟨some 10, .load false 1 (.t 9), [], some (6, false)⟩,
    ⟨some 11, .un .not (.t 10), [], some (6, false)⟩,
    ⟨some 12, .pick (.t 6) (.k (.one (.iv (.bool true)))) (.t 11), [], none⟩,
    ⟨some 13, .mov none (.t 12), [], none⟩,
    ⟨some 14, .mov none (.t 0), [], some (13, false)⟩,
    ⟨some 15, .nilc (.t 14), [], some (13, false)⟩,
    ⟨some 16, .fad 1 (.t 15), [], some (13, false)⟩,
    ⟨some 17, .load false 1 (.t 16), [], some (13, false)⟩,
    ⟨some 18, .bin .neq (.t 17) (.k (.one (.iv (.int .i64 0)))), [], some (13, false)⟩,
    ⟨some 19, .pick (.t 13) (.k (.one (.iv (.bool true)))) (.t 18), [], none⟩,
    ⟨some 20, .mov none (.t 19), [], none⟩,
    ⟨some 21, .mov none (.t 1), [], some (20, false)⟩,
    ⟨some 22, .bin .eql (.t 21) (.k (.one (.iv (.int .i64 0)))), [], some (20, false)⟩,
    ⟨some 23, .pick (.t 20) (.k (.one (.iv (.bool true)))) (.t 22), [], none⟩])
  (.cond (.t 23) (.ret) (.skip)))
  (.region false [⟨some 24, .mov none (.t 0), [], none⟩,
    ⟨some 25, .mov none (.t 0), [], none⟩,
    ⟨some 26, .mov none (.t 1), [], none⟩,
    ⟨some 27, .nilc (.t 24), [], none⟩,
    ⟨some 28, .fad 1 (.t 27), [], none⟩,
    ⟨none, .store 1 (.t 28) (.t 26), [], none⟩,
    ⟨some 29, .nilc (.t 25), [], none⟩,
    ⟨some 30, .fad 0 (.t 29), [], none⟩,
    ⟨none, .store 1 (.t 30) (.k (.one (.iv (.sl true 0 [])))), [], none⟩])
def v73 : VFn := ⟨2, 31, [], b73⟩

theorem c73 : chkFn Try.prog 73 v73 = true := by kernel_rfl

/- scholia/docs.Of -/
def l81_0 : VCode := .seq (.region false [⟨some 14, .bin .lss (.t 13) (.t 12), [], none⟩])
  (.seq (.cond (.t 14) (.skip) (.exit 0))
  (.seq (.block 1 (.seq (.region false [⟨some 15, .ixS 6 (.t 11) (.t 13), [], none⟩,
    ⟨some 16, .load true 6 (.t 15), [], none⟩,
    ⟨some 9, .new [.iv (.int .i64 0), .iv (.int .i64 0), .iv (.int .i64 0), .iv (.str ⟨#[]⟩), .iv (.int .i64 0), .iv (.str ⟨#[]⟩)], [], none⟩,
    ⟨none, .store 6 (.t 9) (.t 16), [], none⟩])
  (.seq (.region false [⟨some 17, .fad 3 (.t 9), [], none⟩,
    ⟨some 18, .load false 1 (.t 17), [], none⟩,
    ⟨some 19, .mov none (.t 1), [], none⟩,
    ⟨some 20, .bin .eql (.t 18) (.t 19), [], none⟩,
    ⟨some 21, .mov none (.t 20), [], none⟩,
    ⟨some 22, .mov none (.t 2), [], some (21, true)⟩,
    ⟨some 23, .bin .lss (.t 22) (.k (.one (.iv (.int .i64 0)))), [], some (21, true)⟩,
    ⟨some 24, .mov none (.t 23), [], some (21, true)⟩,
    ⟨some 25, .fad 4 (.t 9), [], some (24, false)⟩,
    ⟨some 26, .load false 1 (.t 25), [], some (24, false)⟩,
    ⟨some 27, .mov none (.t 2), [], some (24, false)⟩,
    ⟨some 28, .bin .eql (.t 26) (.t 27), [], some (24, false)⟩,
    ⟨some 29, .pick (.t 24) (.k (.one (.iv (.bool true)))) (.t 28), [], some (21, true)⟩,
    ⟨some 30, .pick (.t 21) (.t 29) (.k (.one (.iv (.bool false)))), [], none⟩])
  (.cond (.t 30) (.region false [⟨some 31, .mov none (.t 7), [], none⟩,
    ⟨some 32, .load true 6 (.t 9), [], none⟩,
    ⟨some 33, .mks false 6 [.t 32], [], none⟩,
    ⟨some 34, .blt (.append 6 64) [.t 31, .t 33], [], none⟩,
    ⟨some 7, .mov none (.t 34), [], none⟩]) (.skip)))))
  (.region false [⟨some 35, .bin .add (.t 13) (.k (.one (.iv (.int .i64 1)))), [], none⟩,
    ⟨some 13, .mov none (.t 35), [], none⟩])))
def b81 : VCode := .seq (.region false [⟨some 3, .box (.t 0), [], none⟩,
    ⟨some 6, .mov none (.k (.one (.iv (.sl true 0 [])))), [], none⟩])
  (.seq (.region false [⟨some 7, .mov (some 6) (.k (.one (.iv (.sl true 0 [])))), [], none⟩])
  (.seq (.seq (.region false [⟨some 10, .fad 64 (.t 3), [], none⟩,
    ⟨some 11, .load false 1 (.t 10), [], none⟩,
    ⟨some 12, .blt .len [.t 11], [], none⟩,
    ⟨some 13, .mov none (.k (.one (.iv (.int .i64 0)))), [], none⟩])
  (.block 0 (.loop false [1, 2, 7, 11, 12, 13] l81_0)))
  (.seq (.region false [⟨some 36, .mov none (.t 7), [], none⟩,
    ⟨some 6, .mov none (.t 36), [], none⟩])
  (.ret))))
def v81 : VFn := ⟨3, 37, [.t 6], b81⟩

theorem c81 : chkFn Try.prog 81 v81 = true := by kernel_rfl

/- slices.SortStableFunc[[]scholia/api.Write,scholia/api.Write] -/
def b82 : VCode := .region false [⟨some 4, .mov none (.t 0), [], none⟩,
    ⟨some 5, .mov none (.t 0), [], none⟩,
    ⟨some 6, .blt .len [.t 5], [], none⟩,
    ⟨some 7, .mov none (.t 1), [], none⟩,
    ⟨some 8, .call 109 [(true, .t 4), (false, .t 6), (false, .t 7)], [], none⟩]
def v82 : VFn := ⟨2, 9, [], b82⟩

theorem c82 : chkFn Try.prog 82 v82 = true := by kernel_rfl

/- scholia/stable.Compare -/
def b83 : VCode := .seq (.region false [⟨some 2, .box (.t 0), [], none⟩,
    ⟨some 3, .box (.t 1), [], none⟩,
    ⟨some 4, .mov none (.k (.one (.iv (.int .i64 0)))), [], none⟩])
  (.seq (.region true [⟨some 5, .fad 2 (.t 2), [], none⟩,
    ⟨some 6, .load false 1 (.t 5), [0], none⟩,
    ⟨some 7, .fad 2 (.t 3), [], none⟩,
    ⟨some 8, .load false 1 (.t 7), [2], none⟩,
    ⟨some 9, .call 91 [(false, .t 6), (false, .t 8)], [3, 1], none⟩,
    ⟨some 10, .fad 0 (.t 2), [], none⟩,
    ⟨some 11, .load true 2 (.t 10), [5], none⟩,
    ⟨some 12, .fad 0 (.t 3), [], none⟩,
    ⟨some 13, .load true 2 (.t 12), [7], none⟩,
    ⟨some 14, .call 86 [(false, .t 11), (false, .t 13)], [8, 6, 4], none⟩,
    ⟨some 15, .mks false 1 [.t 9, .t 14], [9], none⟩,
    ⟨some 16, .call 89 [(false, .t 15)], [10], none⟩,
    ⟨some 4, .mov none (.t 16), [11], none⟩])
  (.ret))
def v83 : VFn := ⟨2, 17, [.t 4], b83⟩

theorem c83 : chkFn Try.prog 83 v83 = true := by kernel_rfl

/- scholia/utf.Next -/
def l84_0 : VCode := .seq (.region false [⟨some 47, .bin .lss (.t 46) (.t 45), [], none⟩])
  (.seq (.cond (.t 47) (.skip) (.exit 0))
  (.seq (.block 1 (.seq (.region false [⟨some 48, .ixS 1 (.t 44) (.t 46), [], none⟩,
    ⟨some 49, .load false 1 (.t 48), [], none⟩,
    ⟨some 9, .mov none (.t 49), [], none⟩])
  (.seq (.seq (.region false [⟨some 50, .mov none (.t 9), [], none⟩,
    ⟨some 51, .bin .and (.t 50) (.k (.one (.iv (.int .u8 192)))), [], none⟩,
    ⟨some 52, .bin .neq (.t 51) (.k (.one (.iv (.int .u8 128)))), [], none⟩])
  (.cond (.t 52) (.seq (.region false [⟨some 4, .mov none (.k (.one (.iv (.int .i64 (-1))))), [], none⟩,
    ⟨some 5, .mov none (.k (.one (.iv (.int .i64 1)))), [], none⟩])
  (.ret)) (.skip)))
  (.region false [⟨some 53, .mov none (.t 7), [], none⟩,
    ⟨some 54, .bin .shl (.t 53) (.k (.one (.iv (.int .u64 6)))), [], none⟩,
    ⟨some 55, .mov none (.t 9), [], none⟩,
    ⟨some 56, .bin .and (.t 55) (.k (.one (.iv (.int .u8 63)))), [], none⟩,
    ⟨some 57, .conv .i64 (.t 56), [], none⟩,
    ⟨some 58, .bin .or (.t 54) (.t 57), [], none⟩,
    ⟨some 7, .mov none (.t 58), [], none⟩]))))
  (.region false [⟨some 59, .bin .add (.t 46) (.k (.one (.iv (.int .i64 1)))), [], none⟩,
    ⟨some 46, .mov none (.t 59), [], none⟩])))
def b84 : VCode := .seq (.region false [⟨some 4, .mov none (.k (.one (.iv (.int .i64 0)))), [], none⟩,
    ⟨some 5, .mov none (.k (.one (.iv (.int .i64 0)))), [], none⟩])
  (.seq (.seq (.region false [⟨some 10, .mov none (.t 1), [], none⟩,
    ⟨some 11, .bin .lss (.t 10) (.k (.one (.iv (.int .i64 0)))), [], none⟩,
    ⟨some 12, .mov none (.t 11), [], none⟩,
    ⟨some 13, .mov none (.t 1), [], some (12, false)⟩,
    ⟨some 14, .mov none (.t 0), [], some (12, false)⟩,
    ⟨some 15, .blt .lenS [.t 14], [], some (12, false)⟩,
    ⟨some 16, .bin .geq (.t 13) (.t 15), [], some (12, false)⟩,
    ⟨some 17, .pick (.t 12) (.k (.one (.iv (.bool true)))) (.t 16), [], none⟩])
  (.cond (.t 17) (.seq (.region false [⟨some 4, .mov none (.k (.one (.iv (.int .i64 (-1))))), [], none⟩,
    ⟨some 5, .mov none (.k (.one (.iv (.int .i64 0)))), [], none⟩])
  (.ret)) (.skip)))
  (.seq (.region false [⟨some 18, .mov none (.t 0), [], none⟩,
    ⟨some 19, .mov none (.t 1), [], none⟩,
    ⟨some 20, .ixT (.t 18) (.t 19), [], none⟩,
    ⟨some 21, .call 110 [(false, .t 20)], [], none⟩,
    ⟨some 6, .new [.iv (.int .i64 0), .iv (.int .i64 0), .iv (.int .i64 0)], [], none⟩,
    ⟨none, .store 3 (.t 6) (.t 21), [], none⟩])
  (.seq (.seq (.region false [⟨some 22, .fad 0 (.t 6), [], none⟩,
    ⟨some 23, .load false 1 (.t 22), [], none⟩,
    ⟨some 24, .bin .eql (.t 23) (.k (.one (.iv (.int .i64 0)))), [], none⟩,
    ⟨some 25, .mov none (.t 24), [], none⟩,
    ⟨some 26, .fad 0 (.t 6), [], some (25, false)⟩,
    ⟨some 27, .load false 1 (.t 26), [], some (25, false)⟩,
    ⟨some 28, .mov none (.t 0), [], some (25, false)⟩,
    ⟨some 29, .blt .lenS [.t 28], [], some (25, false)⟩,
    ⟨some 30, .mov none (.t 1), [], some (25, false)⟩,
    ⟨some 31, .bin .sub (.t 29) (.t 30), [], some (25, false)⟩,
    ⟨some 32, .bin .gtr (.t 27) (.t 31), [], some (25, false)⟩,
    ⟨some 33, .pick (.t 25) (.k (.one (.iv (.bool true)))) (.t 32), [], none⟩])
  (.cond (.t 33) (.seq (.region false [⟨some 4, .mov none (.k (.one (.iv (.int .i64 (-1))))), [], none⟩,
    ⟨some 5, .mov none (.k (.one (.iv (.int .i64 1)))), [], none⟩])
  (.ret)) (.skip)))
  (.seq (.region false [⟨some 34, .fad 1 (.t 6), [], none⟩,
    ⟨some 35, .load false 1 (.t 34), [], none⟩,
    ⟨some 7, .mov none (.t 35), [], none⟩])
  (.seq (.seq (.region false [⟨some 36, .mov none (.t 0), [], none⟩,
    ⟨some 37, .mov none (.t 1), [], none⟩,
    ⟨some 38, .bin .add (.t 37) (.k (.one (.iv (.int .i64 1)))), [], none⟩,
    ⟨some 39, .mov none (.t 1), [], none⟩,
    ⟨some 40, .fad 0 (.t 6), [], none⟩,
    ⟨some 41, .load false 1 (.t 40), [], none⟩,
    ⟨some 42, .bin .add (.t 39) (.t 41), [], none⟩,
    ⟨some 43, .slT (.t 36) (some (.t 38)) (some (.t 42)), [], none⟩,
    ⟨some 44, .s2b (.t 43), [], none⟩,
    ⟨some 45, .blt .len [.t 44], [], none⟩,
    ⟨some 46, .mov none (.k (.one (.iv (.int .i64 0)))), [], none⟩])
  (.block 0 (.loop false [6, 7, 44, 45, 46] l84_0)))
  (.seq (.seq (.region false [⟨some 60, .mov none (.t 7), [], none⟩,
    ⟨some 61, .fad 2 (.t 6), [], none⟩,
    ⟨some 62, .load false 1 (.t 61), [], none⟩,
    ⟨some 63, .bin .lss (.t 60) (.t 62), [], none⟩,
    ⟨some 64, .mov none (.t 63), [], none⟩,
    ⟨some 65, .mov none (.t 7), [], some (64, false)⟩,
    ⟨some 66, .call 111 [(false, .t 65)], [], some (64, false)⟩,
    ⟨some 67, .un .not (.t 66), [], some (64, false)⟩,
    ⟨some 68, .pick (.t 64) (.k (.one (.iv (.bool true)))) (.t 67), [], none⟩])
  (.cond (.t 68) (.seq (.region false [⟨some 4, .mov none (.k (.one (.iv (.int .i64 (-1))))), [], none⟩,
    ⟨some 5, .mov none (.k (.one (.iv (.int .i64 1)))), [], none⟩])
  (.ret)) (.skip)))
  (.seq (.region true [⟨some 69, .mov none (.t 7), [], none⟩,
    ⟨some 70, .fad 0 (.t 6), [], none⟩,
    ⟨some 71, .load false 1 (.t 70), [1], none⟩,
    ⟨some 4, .mov none (.t 69), [0], none⟩,
    ⟨some 5, .mov none (.t 71), [3, 2], none⟩])
  (.ret))))))))
def v84 : VFn := ⟨2, 72, [.t 4, .t 5], b84⟩

theorem c84 : chkFn Try.prog 84 v84 = true := by kernel_rfl

/- scholia/dots.Compare -/
def b86 : VCode := .seq (.region false [⟨some 2, .box (.t 0), [], none⟩,
    ⟨some 3, .box (.t 1), [], none⟩,
    ⟨some 4, .mov none (.k (.one (.iv (.int .i64 0)))), [], none⟩])
  (.seq (.region true [⟨some 5, .fad 0 (.t 2), [], none⟩,
    ⟨some 6, .load false 1 (.t 5), [0], none⟩,
    ⟨some 7, .fad 0 (.t 3), [], none⟩,
    ⟨some 8, .load false 1 (.t 7), [2], none⟩,
    ⟨some 9, .call 91 [(false, .t 6), (false, .t 8)], [3, 1], none⟩,
    ⟨some 10, .fad 1 (.t 2), [], none⟩,
    ⟨some 11, .load false 1 (.t 10), [5], none⟩,
    ⟨some 12, .fad 1 (.t 3), [], none⟩,
    ⟨some 13, .load false 1 (.t 12), [7], none⟩,
    ⟨some 14, .call 91 [(false, .t 11), (false, .t 13)], [8, 6, 4], none⟩,
    ⟨some 15, .mks false 1 [.t 9, .t 14], [9], none⟩,
    ⟨some 16, .call 89 [(false, .t 15)], [10], none⟩,
    ⟨some 4, .mov none (.t 16), [11], none⟩])
  (.ret))
def v86 : VFn := ⟨2, 17, [.t 4], b86⟩

theorem c86 : chkFn Try.prog 86 v86 = true := by kernel_rfl

/- slices.IndexFunc[[]scholia/api.Write,scholia/api.Write] -/
def l87_0 : VCode := .seq (.region false [⟨some 9, .bin .lss (.t 8) (.t 7), [], none⟩])
  (.seq (.cond (.t 9) (.skip) (.exit 0))
  (.seq (.block 1 (.seq (.region false [⟨some 10, .mov none (.t 8), [], none⟩,
    ⟨some 5, .mov none (.t 10), [], none⟩])
  (.seq (.region false [⟨some 11, .mov none (.t 1), [], none⟩,
    ⟨some 12, .mov none (.t 0), [], none⟩,
    ⟨some 13, .mov none (.t 5), [], none⟩,
    ⟨some 14, .ixS 6 (.t 12) (.t 13), [], none⟩,
    ⟨some 15, .load true 6 (.t 14), [], none⟩,
    ⟨some 16, .callv (.t 11) [(false, .t 15)], [], none⟩])
  (.cond (.t 16) (.seq (.region false [⟨some 17, .mov none (.t 5), [], none⟩,
    ⟨some 4, .mov none (.t 17), [], none⟩])
  (.ret)) (.skip)))))
  (.region false [⟨some 18, .bin .add (.t 8) (.k (.one (.iv (.int .i64 1)))), [], none⟩,
    ⟨some 8, .mov none (.t 18), [], none⟩])))
def b87 : VCode := .seq (.region false [⟨some 4, .mov none (.k (.one (.iv (.int .i64 0)))), [], none⟩])
  (.seq (.seq (.region false [⟨some 6, .mov none (.t 0), [], none⟩,
    ⟨some 7, .blt .len [.t 6], [], none⟩,
    ⟨some 8, .mov none (.k (.one (.iv (.int .i64 0)))), [], none⟩])
  (.block 0 (.loop false [0, 1, 7, 8] l87_0)))
  (.seq (.region false [⟨some 4, .mov none (.k (.one (.iv (.int .i64 (-1))))), [], none⟩])
  (.ret)))
def v87 : VFn := ⟨2, 19, [.t 4], b87⟩

theorem c87 : chkFn Try.prog 87 v87 = true := by kernel_rfl

/- slices.Index[[]scholia/api.Dot,scholia/api.Dot] -/
def l88_0 : VCode := .seq (.region false [⟨some 9, .bin .lss (.t 8) (.t 7), [], none⟩])
  (.seq (.cond (.t 9) (.skip) (.exit 0))
  (.seq (.block 1 (.seq (.region false [⟨some 10, .mov none (.t 8), [], none⟩,
    ⟨some 5, .mov none (.t 10), [], none⟩])
  (.seq (.region true [⟨some 11, .load true 2 (.t 3), [], none⟩,
    ⟨some 12, .mov none (.t 0), [], none⟩,
    ⟨some 13, .mov none (.t 5), [], none⟩,
    ⟨some 14, .ixS 2 (.t 12) (.t 13), [2, 1], none⟩,
    ⟨some 15, .load true 2 (.t 14), [3], none⟩,
    ⟨some 16, .eqa .eql ([.int] ++ [.int]) (.t 11) (.t 15), [4, 0], none⟩])
  (.cond (.t 16) (.seq (.region false [⟨some 17, .mov none (.t 5), [], none⟩,
    ⟨some 4, .mov none (.t 17), [], none⟩])
  (.ret)) (.skip)))))
  (.region false [⟨some 18, .bin .add (.t 8) (.k (.one (.iv (.int .i64 1)))), [], none⟩,
    ⟨some 8, .mov none (.t 18), [], none⟩])))
def b88 : VCode := .seq (.region false [⟨some 3, .box (.t 1), [], none⟩,
    ⟨some 4, .mov none (.k (.one (.iv (.int .i64 0)))), [], none⟩])
  (.seq (.seq (.region false [⟨some 6, .mov none (.t 0), [], none⟩,
    ⟨some 7, .blt .len [.t 6], [], none⟩,
    ⟨some 8, .mov none (.k (.one (.iv (.int .i64 0)))), [], none⟩])
  (.block 0 (.loop false [0, 3, 7, 8] l88_0)))
  (.seq (.region false [⟨some 4, .mov none (.k (.one (.iv (.int .i64 (-1))))), [], none⟩])
  (.ret)))
def v88 : VFn := ⟨2, 19, [.t 4], b88⟩

theorem c88 : chkFn Try.prog 88 v88 = true := by kernel_rfl

/- cmp.Or[int] -/
def l89_0 : VCode := .seq (.region false [⟨some 9, .bin .lss (.t 8) (.t 7), [], none⟩])
  (.seq (.cond (.t 9) (.skip) (.exit 0))
  (.seq (.block 1 (.seq (.region false [⟨some 10, .ixS 1 (.t 6) (.t 8), [], none⟩,
    ⟨some 11, .load false 1 (.t 10), [], none⟩,
    ⟨some 5, .mov none (.t 11), [], none⟩])
  (.seq (.region false [⟨some 12, .mov none (.t 5), [], none⟩,
    ⟨some 13, .mov none (.t 3), [], none⟩,
    ⟨some 14, .bin .neq (.t 12) (.t 13), [], none⟩])
  (.cond (.t 14) (.seq (.region false [⟨some 15, .mov none (.t 5), [], none⟩,
    ⟨some 2, .mov none (.t 15), [], none⟩])
  (.ret)) (.skip)))))
  (.region false [⟨some 16, .bin .add (.t 8) (.k (.one (.iv (.int .i64 1)))), [], none⟩,
    ⟨some 8, .mov none (.t 16), [], none⟩])))
def b89 : VCode := .seq (.region false [⟨some 2, .mov none (.k (.one (.iv (.int .i64 0)))), [], none⟩])
  (.seq (.region false [⟨some 3, .mov none (.k (.one (.iv (.int .i64 0)))), [], none⟩])
  (.seq (.seq (.region false [⟨some 6, .mov none (.t 0), [], none⟩,
    ⟨some 7, .blt .len [.t 6], [], none⟩,
    ⟨some 8, .mov none (.k (.one (.iv (.int .i64 0)))), [], none⟩])
  (.block 0 (.loop false [3, 6, 7, 8] l89_0)))
  (.seq (.region false [⟨some 17, .mov none (.t 3), [], none⟩,
    ⟨some 2, .mov none (.t 17), [], none⟩])
  (.ret))))
def v89 : VFn := ⟨1, 18, [.t 2], b89⟩

theorem c89 : chkFn Try.prog 89 v89 = true := by kernel_rfl

/- cmp.Compare[string] -/
def b90 : VCode := .seq (.region false [⟨some 4, .mov none (.k (.one (.iv (.int .i64 0)))), [], none⟩])
  (.seq (.region false [⟨some 7, .mov none (.t 0), [], none⟩,
    ⟨some 8, .call 114 [(false, .t 7)], [], none⟩,
    ⟨some 5, .mov none (.t 8), [], none⟩])
  (.seq (.region false [⟨some 9, .mov none (.t 1), [], none⟩,
    ⟨some 10, .call 114 [(false, .t 9)], [], none⟩,
    ⟨some 6, .mov none (.t 10), [], none⟩])
  (.seq (.seq (.region false [⟨some 11, .mov none (.t 5), [], none⟩])
  (.cond (.t 11) (.seq (.seq (.region false [⟨some 12, .mov none (.t 6), [], none⟩])
  (.cond (.t 12) (.seq (.region false [⟨some 4, .mov none (.k (.one (.iv (.int .i64 0)))), [], none⟩])
  (.ret)) (.skip)))
  (.seq (.region false [⟨some 4, .mov none (.k (.one (.iv (.int .i64 (-1))))), [], none⟩])
  (.ret))) (.skip)))
  (.seq (.seq (.region false [⟨some 13, .mov none (.t 6), [], none⟩])
  (.cond (.t 13) (.seq (.region false [⟨some 4, .mov none (.k (.one (.iv (.int .i64 1)))), [], none⟩])
  (.ret)) (.skip)))
  (.seq (.seq (.region false [⟨some 14, .mov none (.t 0), [], none⟩,
    ⟨some 15, .mov none (.t 1), [], none⟩,
    ⟨some 16, .bin .lss (.t 14) (.t 15), [], none⟩])
  (.cond (.t 16) (.seq (.region false [⟨some 4, .mov none (.k (.one (.iv (.int .i64 (-1))))), [], none⟩])
  (.ret)) (.skip)))
  (.seq (.seq (.region false [⟨some 17, .mov none (.t 0), [], none⟩,
    ⟨some 18, .mov none (.t 1), [], none⟩,
    ⟨some 19, .bin .gtr (.t 17) (.t 18), [], none⟩])
  (.cond (.t 19) (.seq (.region false [⟨some 4, .mov none (.k (.one (.iv (.int .i64 1)))), [], none⟩])
  (.ret)) (.skip)))
  (.seq (.region false [⟨some 4, .mov none (.k (.one (.iv (.int .i64 0)))), [], none⟩])
  (.ret))))))))
def v90 : VFn := ⟨2, 20, [.t 4], b90⟩

theorem c90 : chkFn Try.prog 90 v90 = true := by kernel_rfl

/- cmp.Compare[int] -/
def b91 : VCode := .seq (.region false [⟨some 4, .mov none (.k (.one (.iv (.int .i64 0)))), [], none⟩])
  (.seq (.region false [⟨some 7, .mov none (.t 0), [], none⟩,
    ⟨some 8, .call 115 [(false, .t 7)], [], none⟩,
    ⟨some 5, .mov none (.t 8), [], none⟩])
  (.seq (.region false [⟨some 9, .mov none (.t 1), [], none⟩,
    ⟨some 10, .call 115 [(false, .t 9)], [], none⟩,
    ⟨some 6, .mov none (.t 10), [], none⟩])
  (.seq (.seq (.region false [⟨some 11, .mov none (.t 5), [], none⟩])
  (.cond (.t 11) (.seq (.seq (.region false [⟨some 12, .mov none (.t 6), [], none⟩])
  (.cond (.t 12) (.seq (.region false [⟨some 4, .mov none (.k (.one (.iv (.int .i64 0)))), [], none⟩])
  (.ret)) (.skip)))
  (.seq (.region false [⟨some 4, .mov none (.k (.one (.iv (.int .i64 (-1))))), [], none⟩])
  (.ret))) (.skip)))
  (.seq (.seq (.region false [⟨some 13, .mov none (.t 6), [], none⟩])
  (.cond (.t 13) (.seq (.region false [⟨some 4, .mov none (.k (.one (.iv (.int .i64 1)))), [], none⟩])
  (.ret)) (.skip)))
  (.seq (.seq (.region false [⟨some 14, .mov none (.t 0), [], none⟩,
    ⟨some 15, .mov none (.t 1), [], none⟩,
    ⟨some 16, .bin .lss (.t 14) (.t 15), [], none⟩])
  (.cond (.t 16) (.seq (.region false [⟨some 4, .mov none (.k (.one (.iv (.int .i64 (-1))))), [], none⟩])
  (.ret)) (.skip)))
  (.seq (.seq (.region false [⟨some 17, .mov none (.t 0), [], none⟩,
    ⟨some 18, .mov none (.t 1), [], none⟩,
    ⟨some 19, .bin .gtr (.t 17) (.t 18), [], none⟩])
  (.cond (.t 19) (.seq (.region false [⟨some 4, .mov none (.k (.one (.iv (.int .i64 1)))), [], none⟩])
  (.ret)) (.skip)))
  (.seq (.region false [⟨some 4, .mov none (.k (.one (.iv (.int .i64 0)))), [], none⟩])
  (.ret))))))))
def v91 : VFn := ⟨2, 20, [.t 4], b91⟩

theorem c91 : chkFn Try.prog 91 v91 = true := by kernel_rfl

/- scholia/dots.good -/
def b97 : VCode := .seq (.region false [⟨some 1, .box (.t 0), [], none⟩,
    ⟨some 2, .mov none (.k (.one (.iv (.bool false)))), [], none⟩])
  (.seq (.region false [⟨some 3, .slA 1 64 (.t 1), [], none⟩,
    ⟨some 4, .call 117 [(false, .t 3), (false, .k (.one (.iv (.fn 118))))], [], none⟩,
    ⟨some 5, .un .not (.t 4), [], none⟩,
    ⟨some 2, .mov none (.t 5), [], none⟩])
  (.ret))
def v97 : VFn := ⟨1, 6, [.t 2], b97⟩

theorem c97 : chkFn Try.prog 97 v97 = true := by kernel_rfl

/- scholia/coder.need -/
def b98 : VCode := .seq (.region false [⟨some 2, .mov none (.k (.one (.iv (.int .i64 0)))), [], none⟩])
  (.seq (.region false [⟨some 4, .mov none (.t 0), [], none⟩,
    ⟨some 5, .call 119 [(false, .t 4)], [], none⟩,
    ⟨some 3, .mov none (.t 5), [], none⟩])
  (.seq (.seq (.region false [⟨some 6, .mov none (.t 3), [], none⟩,
    ⟨some 7, .bin .gtr (.t 6) (.k (.one (.iv (.int .i64 56)))), [], none⟩])
  (.cond (.t 7) (.seq (.region false [⟨some 2, .mov none (.k (.one (.iv (.int .i64 8)))), [], none⟩])
  (.ret)) (.skip)))
  (.seq (.region false [⟨some 8, .mov none (.t 3), [], none⟩,
    ⟨some 9, .bin .sub (.t 8) (.k (.one (.iv (.int .i64 1)))), [], none⟩,
    ⟨some 10, .blt .max [.t 9, .k (.one (.iv (.int .i64 0)))], [], none⟩,
    ⟨some 11, .bin .quo (.t 10) (.k (.one (.iv (.int .i64 7)))), [], none⟩,
    ⟨some 2, .mov none (.t 11), [], none⟩])
  (.ret))))
def v98 : VFn := ⟨1, 12, [.t 2], b98⟩

theorem c98 : chkFn Try.prog 98 v98 = true := by kernel_rfl

/- scholia/coder.Rising -/
def l99_0 : VCode := .seq (.seq (.region false [⟨some 10, .mov none (.t 5), [], none⟩,
    ⟨some 11, .mov none (.t 1), [], none⟩,
    ⟨some 12, .blt .len [.t 11], [], none⟩,
    ⟨some 13, .bin .lss (.t 10) (.t 12), [], none⟩,
    ⟨some 14, .mov none (.t 13), [], none⟩,
    ⟨some 15, .mov none (.t 1), [], some (14, true)⟩,
    ⟨some 16, .mov none (.t 5), [], some (14, true)⟩,
    ⟨some 17, .ixS 1 (.t 15) (.t 16), [], some (14, true)⟩,
    ⟨some 18, .load false 1 (.t 17), [], some (14, true)⟩,
    ⟨some 19, .mov none (.t 6), [], some (14, true)⟩,
    ⟨some 20, .bin .gtr (.t 18) (.t 19), [], some (14, true)⟩,
    ⟨some 21, .pick (.t 14) (.t 20) (.k (.one (.iv (.bool false)))), [], none⟩])
  (.cond (.t 21) (.skip) (.exit 0)))
  (.block 1 (.seq (.region false [⟨some 22, .mov none (.t 1), [], none⟩,
    ⟨some 23, .mov none (.t 5), [], none⟩,
    ⟨some 24, .ixS 1 (.t 22) (.t 23), [], none⟩,
    ⟨some 25, .load false 1 (.t 24), [], none⟩,
    ⟨some 6, .mov none (.t 25), [], none⟩])
  (.region false [⟨some 26, .mov none (.t 5), [], none⟩,
    ⟨some 27, .bin .add (.t 26) (.k (.one (.iv (.int .i64 1)))), [], none⟩,
    ⟨some 5, .mov none (.t 27), [], none⟩])))
def l99_1 : VCode := .seq (.region false [⟨some 36, .bin .lss (.t 35) (.t 34), [], none⟩])
  (.seq (.cond (.t 36) (.skip) (.exit 2))
  (.seq (.block 3 (.seq (.region false [⟨some 37, .ixS 1 (.t 33) (.t 35), [], none⟩,
    ⟨some 38, .load false 1 (.t 37), [], none⟩,
    ⟨some 9, .mov none (.t 38), [], none⟩])
  (.seq (.region false [⟨some 39, .mov none (.t 7), [], none⟩,
    ⟨some 40, .mov none (.t 9), [], none⟩,
    ⟨some 41, .mov none (.t 6), [], none⟩,
    ⟨some 42, .bin .sub (.t 40) (.t 41), [], none⟩,
    ⟨some 43, .bin .sub (.t 42) (.k (.one (.iv (.int .i64 1)))), [], none⟩,
    ⟨some 44, .call 65 [(false, .t 39), (false, .t 43)], [], none⟩,
    ⟨some 7, .mov none (.t 44), [], none⟩])
  (.region false [⟨some 45, .mov none (.t 9), [], none⟩,
    ⟨some 6, .mov none (.t 45), [], none⟩]))))
  (.region false [⟨some 46, .bin .add (.t 35) (.k (.one (.iv (.int .i64 1)))), [], none⟩,
    ⟨some 35, .mov none (.t 46), [], none⟩])))
def b99 : VCode := .seq (.region false [⟨some 4, .mov none (.k (.one (.iv (.sl true 0 [])))), [], none⟩])
  (.seq (.region false [⟨some 5, .mov none (.k (.one (.iv (.int .i64 0)))), [], none⟩,
    ⟨some 6, .mov none (.k (.one (.iv (.int .i64 (-1))))), [], none⟩])
  (.seq (.block 0 (.loop false [0, 1, 5, 6] l99_0))
  (.seq (.region false [⟨some 28, .mov none (.t 0), [], none⟩,
    ⟨some 29, .mov none (.t 5), [], none⟩,
    ⟨some 30, .call 65 [(false, .t 28), (false, .t 29)], [], none⟩,
    ⟨some 7, .mov none (.t 30), [], none⟩])
  (.seq (.region false [⟨some 6, .mov none (.k (.one (.iv (.int .i64 (-1))))), [], none⟩])
  (.seq (.seq (.region false [⟨some 31, .mov none (.t 1), [], none⟩,
    ⟨some 32, .mov none (.t 5), [], none⟩,
    ⟨some 33, .slS 1 (.t 31) none (some (.t 32)) none, [], none⟩,
    ⟨some 34, .blt .len [.t 33], [], none⟩,
    ⟨some 35, .mov none (.k (.one (.iv (.int .i64 0)))), [], none⟩])
  (.block 2 (.loop false [6, 7, 33, 34, 35] l99_1)))
  (.seq (.region false [⟨some 47, .mov none (.t 7), [], none⟩,
    ⟨some 4, .mov none (.t 47), [], none⟩])
  (.ret)))))))
def v99 : VFn := ⟨2, 48, [.t 4], b99⟩

theorem c99 : chkFn Try.prog 99 v99 = true := by kernel_rfl

/- (*scholia/coder.In).Rising -/
def l100_0 : VCode := .seq (.region false [⟨some 15, .bin .lss (.t 14) (.t 13), [], none⟩])
  (.seq (.cond (.t 15) (.skip) (.exit 0))
  (.seq (.block 1 (.seq (.region false [⟨some 16, .mov none (.t 9), [], none⟩,
    ⟨some 17, .mov none (.t 0), [], none⟩,
    ⟨some 18, .mov none (.t 2), [], none⟩,
    ⟨some 19, .blt .max [.t 18, .k (.one (.iv (.int .i64 (-1))))], [], none⟩,
    ⟨some 20, .mov none (.t 9), [], none⟩,
    ⟨some 21, .bin .sub (.t 19) (.t 20), [], none⟩,
    ⟨some 22, .bin .sub (.t 21) (.k (.one (.iv (.int .i64 1)))), [], none⟩,
    ⟨some 23, .call 70 [(false, .t 17), (false, .t 22)], [], none⟩,
    ⟨some 24, .bin .add (.k (.one (.iv (.int .i64 1)))) (.t 23), [], none⟩,
    ⟨some 25, .bin .add (.t 16) (.t 24), [], none⟩,
    ⟨some 9, .mov none (.t 25), [], none⟩])
  (.seq (.seq (.region false [⟨some 26, .mov none (.t 0), [], none⟩,
    ⟨some 27, .call 31 [(false, .t 26)], [], none⟩,
    ⟨some 28, .bin .neq (.t 27) (.k (.one (.iv (.int .i64 0)))), [], none⟩])
  (.cond (.t 28) (.seq (.region false [⟨some 6, .mov none (.k (.one (.iv (.sl true 0 [])))), [], none⟩])
  (.ret)) (.skip)))
  (.region false [⟨some 29, .mov none (.t 8), [], none⟩,
    ⟨some 30, .mov none (.t 9), [], none⟩,
    ⟨some 31, .mks false 1 [.t 30], [], none⟩,
    ⟨some 32, .blt (.append 1 8) [.t 29, .t 31], [], none⟩,
    ⟨some 8, .mov none (.t 32), [], none⟩]))))
  (.region false [⟨some 33, .bin .add (.t 14) (.k (.one (.iv (.int .i64 1)))), [], none⟩,
    ⟨some 14, .mov none (.t 33), [], none⟩])))
def b100 : VCode := .seq (.region false [⟨some 6, .mov none (.k (.one (.iv (.sl true 0 [])))), [], none⟩])
  (.seq (.region false [⟨some 10, .mov none (.t 0), [], none⟩,
    ⟨some 11, .mov none (.t 1), [], none⟩,
    ⟨some 12, .call 70 [(false, .t 10), (false, .t 11)], [], none⟩,
    ⟨some 7, .mov none (.t 12), [], none⟩])
  (.seq (.region false [⟨some 8, .mov (some 1) (.k (.one (.iv (.sl true 0 [])))), [], none⟩])
  (.seq (.region false [⟨some 9, .mov none (.k (.one (.iv (.int .i64 (-1))))), [], none⟩])
  (.seq (.seq (.region false [⟨some 13, .mov none (.t 7), [], none⟩,
    ⟨some 14, .mov none (.k (.one (.iv (.int .i64 0)))), [], none⟩])
  (.block 0 (.loop false [0, 2, 8, 9, 13, 14] l100_0)))
  (.seq (.region false [⟨some 34, .mov none (.t 8), [], none⟩,
    ⟨some 6, .mov none (.t 34), [], none⟩])
  (.ret))))))
def v100 : VFn := ⟨3, 35, [.t 6], b100⟩

theorem c100 : chkFn Try.prog 100 v100 = true := by kernel_rfl

/- (*scholia/coder.In).raw -/
def l101_0 : VCode := .seq (.region false [⟨some 42, .bin .lss (.t 41) (.t 40), [], none⟩])
  (.seq (.cond (.t 42) (.skip) (.exit 0))
  (.seq (.block 1 (.seq (.region false [⟨some 43, .ixS 1 (.t 39) (.t 41), [], none⟩,
    ⟨some 44, .load false 1 (.t 43), [], none⟩,
    ⟨some 9, .mov none (.t 44), [], none⟩])
  (.region false [⟨some 45, .mov none (.t 7), [], none⟩,
    ⟨some 46, .bin .shl (.t 45) (.k (.one (.iv (.int .u64 8)))), [], none⟩,
    ⟨some 47, .mov none (.t 9), [], none⟩,
    ⟨some 48, .conv .u64 (.t 47), [], none⟩,
    ⟨some 49, .bin .or (.t 46) (.t 48), [], none⟩,
    ⟨some 7, .mov none (.t 49), [], none⟩])))
  (.region false [⟨some 50, .bin .add (.t 41) (.k (.one (.iv (.int .i64 1)))), [], none⟩,
    ⟨some 41, .mov none (.t 50), [], none⟩])))
def b101 : VCode := .seq (.region false [⟨some 2, .mov none (.k (.one (.iv (.int .u64 0)))), [], none⟩,
    ⟨some 3, .mov none (.k (.one (.iv (.bool false)))), [], none⟩])
  (.seq (.region false [⟨some 11, .mov none (.t 0), [], none⟩,
    ⟨some 12, .call 102 [(false, .t 11), (false, .k (.one (.iv (.int .i64 1))))], [], none⟩,
    ⟨some 10, .mov none (.t 12), [], none⟩,
    ⟨some 13, .ext 0 (.t 10), [], none⟩,
    ⟨some 14, .ext 1 (.t 10), [], none⟩,
    ⟨some 4, .mov none (.t 13), [], none⟩,
    ⟨some 5, .mov none (.t 14), [], none⟩])
  (.seq (.seq (.region false [⟨some 15, .mov none (.t 5), [], none⟩,
    ⟨some 16, .un .not (.t 15), [], none⟩])
  (.cond (.t 16) (.seq (.region false [⟨some 2, .mov none (.k (.one (.iv (.int .u64 0)))), [], none⟩,
    ⟨some 3, .mov none (.k (.one (.iv (.bool false)))), [], none⟩])
  (.ret)) (.skip)))
  (.seq (.region false [⟨some 17, .mov none (.t 4), [], none⟩,
    ⟨some 18, .ixS 1 (.t 17) (.k (.one (.iv (.int .i64 0)))), [], none⟩,
    ⟨some 19, .load false 1 (.t 18), [], none⟩,
    ⟨some 20, .un .xor (.t 19), [], none⟩,
    ⟨some 21, .call 120 [(false, .t 20)], [], none⟩,
    ⟨some 6, .mov none (.t 21), [], none⟩])
  (.seq (.region false [⟨some 7, .mov none (.k (.one (.iv (.int .u64 0)))), [], none⟩])
  (.seq (.seq (.region false [⟨some 22, .mov none (.t 6), [], none⟩,
    ⟨some 23, .bin .lss (.t 22) (.k (.one (.iv (.int .i64 8)))), [], none⟩])
  (.cond (.t 23) (.region true [⟨some 24, .mov none (.t 4), [], none⟩,
    ⟨some 25, .ixS 1 (.t 24) (.k (.one (.iv (.int .i64 0)))), [0], none⟩,
    ⟨some 26, .load false 1 (.t 25), [1], none⟩,
    ⟨some 27, .mov none (.t 6), [], none⟩,
    ⟨some 28, .bin .shr (.k (.one (.iv (.int .u8 255)))) (.t 27), [3], none⟩,
    ⟨some 29, .bin .and (.t 26) (.t 28), [4, 2], none⟩,
    ⟨some 30, .conv .u64 (.t 29), [5], none⟩,
    ⟨some 7, .mov none (.t 30), [6], none⟩]) (.skip)))
  (.seq (.region false [⟨some 32, .mov none (.t 0), [], none⟩,
    ⟨some 33, .mov none (.t 6), [], none⟩,
    ⟨some 34, .call 102 [(false, .t 32), (false, .t 33)], [], none⟩,
    ⟨some 31, .mov none (.t 34), [], none⟩,
    ⟨some 35, .ext 0 (.t 31), [], none⟩,
    ⟨some 36, .ext 1 (.t 31), [], none⟩,
    ⟨some 4, .mov none (.t 35), [], none⟩,
    ⟨some 5, .mov none (.t 36), [], none⟩])
  (.seq (.seq (.region false [⟨some 37, .mov none (.t 5), [], none⟩,
    ⟨some 38, .un .not (.t 37), [], none⟩])
  (.cond (.t 38) (.seq (.region false [⟨some 2, .mov none (.k (.one (.iv (.int .u64 0)))), [], none⟩,
    ⟨some 3, .mov none (.k (.one (.iv (.bool false)))), [], none⟩])
  (.ret)) (.skip)))
  (.seq (.seq (.region false [⟨some 39, .mov none (.t 4), [], none⟩,
    ⟨some 40, .blt .len [.t 39], [], none⟩,
    ⟨some 41, .mov none (.k (.one (.iv (.int .i64 0)))), [], none⟩])
  (.block 0 (.loop false [0, 6, 7, 39, 40, 41] l101_0)))
  (.seq (.seq (.region false [⟨some 51, .mov none (.t 7), [], none⟩,
    ⟨some 52, .call 98 [(false, .t 51)], [], none⟩,
    ⟨some 53, .mov none (.t 6), [], none⟩,
    ⟨some 54, .bin .neq (.t 52) (.t 53), [], none⟩])
  (.cond (.t 54) (.seq (.region false [⟨some 55, .mov none (.t 0), [], none⟩,
    ⟨some 56, .call 73 [(false, .t 55), (false, .k (.one (.iv (.int .i64 3))))], [], none⟩])
  (.seq (.region false [⟨some 2, .mov none (.k (.one (.iv (.int .u64 0)))), [], none⟩,
    ⟨some 3, .mov none (.k (.one (.iv (.bool false)))), [], none⟩])
  (.ret))) (.skip)))
  (.seq (.region false [⟨some 57, .mov none (.t 7), [], none⟩,
    ⟨some 2, .mov none (.t 57), [], none⟩,
    ⟨some 3, .mov none (.k (.one (.iv (.bool true)))), [], none⟩])
  (.ret)))))))))))
def v101 : VFn := ⟨1, 58, [.t 2, .t 3], b101⟩

theorem c101 : chkFn Try.prog 101 v101 = true := by kernel_rfl

/- (*scholia/coder.In).take -/
def b102 : VCode := .seq (.region false [⟨some 4, .mov none (.k (.one (.iv (.sl true 0 [])))), [], none⟩,
    ⟨some 5, .mov none (.k (.one (.iv (.bool false)))), [], none⟩])
  (.seq (.seq (.region false [⟨some 7, .mov none (.t 0), [], none⟩,
    ⟨some 8, .eqs .eql .ptr (.t 7) (.k (.one (.iv .nilp))), [], none⟩,
    ⟨some 9, .mov none (.t 8), [], none⟩,
    ⟨some 10, .mov none (.t 0), [], some (9, false)⟩,
    ⟨some 11, .nilc (.t 10), [], some (9, false)⟩,
    ⟨some 12, .fad 2 (.t 11), [], some (9, false)⟩,
    ⟨some 13, .load false 1 (.t 12), [], some (9, false)⟩,
    ⟨some 14, .un .not (.t 13), [], some (9, false)⟩,
    ⟨some 15, .pick (.t 9) (.k (.one (.iv (.bool true)))) (.t 14), [], none⟩,
    ⟨some 16, .mov none (.t 15), [], none⟩,
    ⟨some 17, .mov none (.t 0), [], some (16, false)⟩,
    ⟨some 18, .nilc (.t 17), [], some (16, false)⟩,
    ⟨some 19, .fad 1 (.t 18), [], some (16, false)⟩,
    ⟨some 20, .load false 1 (.t 19), [], some (16, false)⟩,
    ⟨some 21, .bin .neq (.t 20) (.k (.one (.iv (.int .i64 0)))), [], some (16, false)⟩,
    ⟨some 22, .pick (.t 16) (.k (.one (.iv (.bool true)))) (.t 21), [], none⟩])
  (.cond (.t 22) (.seq (.region false [⟨some 4, .mov none (.k (.one (.iv (.sl true 0 [])))), [], none⟩,
    ⟨some 5, .mov none (.k (.one (.iv (.bool false)))), [], none⟩])
  (.ret)) (.skip)))
  (.seq (.seq (.region false [⟨some 23, .mov none (.t 1), [], none⟩,
    ⟨some 24, .mov none (.t 0), [], none⟩,
    ⟨some 25, .nilc (.t 24), [], none⟩,
    ⟨some 26, .fad 0 (.t 25), [], none⟩,
    ⟨some 27, .load false 1 (.t 26), [], none⟩,
    ⟨some 28, .blt .len [.t 27], [], none⟩,
    ⟨some 29, .bin .gtr (.t 23) (.t 28), [], none⟩])
  (.cond (.t 29) (.seq (.region false [⟨some 30, .mov none (.t 0), [], none⟩,
    ⟨some 31, .call 73 [(false, .t 30), (false, .k (.one (.iv (.int .i64 4))))], [], none⟩])
  (.seq (.region false [⟨some 4, .mov none (.k (.one (.iv (.sl true 0 [])))), [], none⟩,
    ⟨some 5, .mov none (.k (.one (.iv (.bool false)))), [], none⟩])
  (.ret))) (.skip)))
  (.seq (.region false [⟨some 32, .mov none (.t 0), [], none⟩,
    ⟨some 33, .nilc (.t 32), [], none⟩,
    ⟨some 34, .fad 0 (.t 33), [], none⟩,
    ⟨some 35, .load false 1 (.t 34), [], none⟩,
    ⟨some 36, .mov none (.t 1), [], none⟩,
    ⟨some 37, .mov none (.t 1), [], none⟩,
    ⟨some 38, .slS 1 (.t 35) none (some (.t 36)) (some (.t 37)), [], none⟩,
    ⟨some 6, .mov none (.t 38), [], none⟩])
  (.seq (.region false [⟨some 39, .mov none (.t 0), [], none⟩,
    ⟨some 40, .mov none (.t 0), [], none⟩,
    ⟨some 41, .nilc (.t 40), [], none⟩,
    ⟨some 42, .fad 0 (.t 41), [], none⟩,
    ⟨some 43, .load false 1 (.t 42), [], none⟩,
    ⟨some 44, .mov none (.t 1), [], none⟩,
    ⟨some 45, .slS 1 (.t 43) (some (.t 44)) none none, [], none⟩,
    ⟨some 46, .nilc (.t 39), [], none⟩,
    ⟨some 47, .fad 0 (.t 46), [], none⟩,
    ⟨none, .store 1 (.t 47) (.t 45), [], none⟩])
  (.seq (.region false [⟨some 48, .mov none (.t 6), [], none⟩,
    ⟨some 4, .mov none (.t 48), [], none⟩,
    ⟨some 5, .mov none (.k (.one (.iv (.bool true)))), [], none⟩])
  (.ret))))))
def v102 : VFn := ⟨2, 49, [.t 4, .t 5], b102⟩

theorem c102 : chkFn Try.prog 102 v102 = true := by kernel_rfl

/- slices.stableCmpFunc[scholia/api.Write] -/
def l109_0 : VCode := .seq (.seq (.region false [⟨some 11, .mov none (.t 8), [], none⟩,
    ⟨some 12, .mov none (.t 1), [], none⟩,
    ⟨some 13, .bin .leq (.t 11) (.t 12), [], none⟩])
  (.cond (.t 13) (.skip) (.exit 0)))
  (.block 1 (.seq (.region false [⟨some 14, .mov none (.t 0), [], none⟩,
    ⟨some 15, .mov none (.t 7), [], none⟩,
    ⟨some 16, .mov none (.t 8), [], none⟩,
    ⟨some 17, .mov none (.t 2), [], none⟩,
    ⟨some 18, .call 122 [(true, .t 14), (false, .t 15), (false, .t 16), (false, .t 17)], [], none⟩])
  (.seq (.region false [⟨some 19, .mov none (.t 8), [], none⟩,
    ⟨some 7, .mov none (.t 19), [], none⟩])
  (.region false [⟨some 20, .mov none (.t 8), [], none⟩,
    ⟨some 21, .mov none (.t 6), [], none⟩,
    ⟨some 22, .bin .add (.t 20) (.t 21), [], none⟩,
    ⟨some 8, .mov none (.t 22), [], none⟩]))))
def l109_2 : VCode := .seq (.seq (.region false [⟨some 33, .mov none (.t 8), [], none⟩,
    ⟨some 34, .mov none (.t 1), [], none⟩,
    ⟨some 35, .bin .leq (.t 33) (.t 34), [], none⟩])
  (.cond (.t 35) (.skip) (.exit 4)))
  (.block 5 (.seq (.region false [⟨some 36, .mov none (.t 0), [], none⟩,
    ⟨some 37, .mov none (.t 7), [], none⟩,
    ⟨some 38, .mov none (.t 7), [], none⟩,
    ⟨some 39, .mov none (.t 6), [], none⟩,
    ⟨some 40, .bin .add (.t 38) (.t 39), [], none⟩,
    ⟨some 41, .mov none (.t 8), [], none⟩,
    ⟨some 42, .mov none (.t 2), [], none⟩,
    ⟨some 43, .call 131 [(false, .t 36), (false, .t 37), (false, .t 40), (false, .t 41), (false, .t 42)], [], none⟩])
  (.seq (.region false [⟨some 44, .mov none (.t 8), [], none⟩,
    ⟨some 7, .mov none (.t 44), [], none⟩])
  (.region false [⟨some 45, .mov none (.t 8), [], none⟩,
    ⟨some 46, .mov none (.t 6), [], none⟩,
    ⟨some 47, .bin .mul (.k (.one (.iv (.int .i64 2)))) (.t 46), [], none⟩,
    ⟨some 48, .bin .add (.t 45) (.t 47), [], none⟩,
    ⟨some 8, .mov none (.t 48), [], none⟩]))))
def l109_1 : VCode := .seq (.seq (.region false [⟨some 28, .mov none (.t 6), [], none⟩,
    ⟨some 29, .mov none (.t 1), [], none⟩,
    ⟨some 30, .bin .lss (.t 28) (.t 29), [], none⟩])
  (.cond (.t 30) (.skip) (.exit 2)))
  (.block 3 (.seq (.region false [⟨some 31, .mov none (.t 6), [], none⟩,
    ⟨some 32, .bin .mul (.k (.one (.iv (.int .i64 2)))) (.t 31), [], none⟩,
    ⟨some 7, .mov none (.k (.one (.iv (.int .i64 0)))), [], none⟩,
    ⟨some 8, .mov none (.t 32), [], none⟩])
  (.seq (.block 4 (.loop false [0, 1, 2, 6, 7, 8] l109_2))
  (.seq (.seq (.region false [⟨some 49, .mov none (.t 7), [], none⟩,
    ⟨some 50, .mov none (.t 6), [], none⟩,
    ⟨some 51, .bin .add (.t 49) (.t 50), [], none⟩,
    ⟨some 9, .mov none (.t 51), [], none⟩])
  (.seq (.region false [⟨some 52, .mov none (.t 9), [], none⟩,
    ⟨some 53, .mov none (.t 1), [], none⟩,
    ⟨some 54, .bin .lss (.t 52) (.t 53), [], none⟩])
  (.cond (.t 54) (.region false [⟨some 55, .mov none (.t 0), [], none⟩,
    ⟨some 56, .mov none (.t 7), [], none⟩,
    ⟨some 57, .mov none (.t 9), [], none⟩,
    ⟨some 58, .mov none (.t 1), [], none⟩,
    ⟨some 59, .mov none (.t 2), [], none⟩,
    ⟨some 60, .call 131 [(false, .t 55), (false, .t 56), (false, .t 57), (false, .t 58), (false, .t 59)], [], none⟩]) (.skip))))
  (.region false [⟨some 61, .mov none (.t 6), [], none⟩,
    ⟨some 62, .bin .mul (.t 61) (.k (.one (.iv (.int .i64 2)))), [], none⟩,
    ⟨some 6, .mov none (.t 62), [], none⟩])))))
def b109 : VCode := .seq (.region false [⟨some 6, .mov none (.k (.one (.iv (.int .i64 20)))), [], none⟩])
  (.seq (.region false [⟨some 10, .mov none (.t 6), [], none⟩,
    ⟨some 7, .mov none (.k (.one (.iv (.int .i64 0)))), [], none⟩,
    ⟨some 8, .mov none (.t 10), [], none⟩])
  (.seq (.block 0 (.loop false [0, 1, 2, 6, 7, 8] l109_0))
  (.seq (.region false [⟨some 23, .mov none (.t 0), [], none⟩,
    ⟨some 24, .mov none (.t 7), [], none⟩,
    ⟨some 25, .mov none (.t 1), [], none⟩,
    ⟨some 26, .mov none (.t 2), [], none⟩,
    ⟨some 27, .call 122 [(true, .t 23), (false, .t 24), (false, .t 25), (false, .t 26)], [], none⟩])
  (.block 2 (.loop false [0, 1, 2, 6] l109_1)))))
def v109 : VFn := ⟨3, 63, [], b109⟩

theorem c109 : chkFn Try.prog 109 v109 = true := by kernel_rfl

/- scholia/utf.first -/
def b110 : VCode := .seq (.region false [⟨some 2, .new [.iv (.int .i64 0), .iv (.int .i64 0), .iv (.int .i64 0)], [], none⟩])
  (.seq (.block 0 (.seq (.region false [⟨some 4, .mov none (.t 0), [], none⟩,
    ⟨some 5, .bin .lss (.t 4) (.k (.one (.iv (.int .u8 128)))), [], none⟩,
    ⟨some 3, .mov none (.t 5), [], none⟩])
  (.cond (.t 3) (.seq (.region false [⟨some 6, .mov none (.t 0), [], none⟩,
    ⟨some 7, .conv .i64 (.t 6), [], none⟩,
    ⟨some 8, .build [.iv (.int .i64 0), .iv (.int .i64 0), .iv (.int .i64 0)] [(0, 1, .k (.one (.iv (.int .i64 1)))), (1, 1, .t 7), (2, 1, .k (.one (.iv (.int .i64 0))))], [], none⟩,
    ⟨none, .store 3 (.t 2) (.t 8), [], none⟩])
  (.ret)) (.seq (.region false [⟨some 10, .mov none (.t 0), [], none⟩,
    ⟨some 11, .bin .lss (.t 10) (.k (.one (.iv (.int .u8 192)))), [], none⟩,
    ⟨some 9, .mov none (.t 11), [], none⟩])
  (.cond (.t 9) (.seq (.region false [⟨some 12, .build [.iv (.int .i64 0), .iv (.int .i64 0), .iv (.int .i64 0)] [], [], none⟩,
    ⟨none, .store 3 (.t 2) (.t 12), [], none⟩])
  (.ret)) (.seq (.region false [⟨some 14, .mov none (.t 0), [], none⟩,
    ⟨some 15, .bin .lss (.t 14) (.k (.one (.iv (.int .u8 224)))), [], none⟩,
    ⟨some 13, .mov none (.t 15), [], none⟩])
  (.cond (.t 13) (.seq (.region false [⟨some 16, .mov none (.t 0), [], none⟩,
    ⟨some 17, .bin .and (.t 16) (.k (.one (.iv (.int .u8 31)))), [], none⟩,
    ⟨some 18, .conv .i64 (.t 17), [], none⟩,
    ⟨some 19, .build [.iv (.int .i64 0), .iv (.int .i64 0), .iv (.int .i64 0)] [(0, 1, .k (.one (.iv (.int .i64 2)))), (1, 1, .t 18), (2, 1, .k (.one (.iv (.int .i64 128))))], [], none⟩,
    ⟨none, .store 3 (.t 2) (.t 19), [], none⟩])
  (.ret)) (.seq (.region false [⟨some 21, .mov none (.t 0), [], none⟩,
    ⟨some 22, .bin .lss (.t 21) (.k (.one (.iv (.int .u8 240)))), [], none⟩,
    ⟨some 20, .mov none (.t 22), [], none⟩])
  (.cond (.t 20) (.seq (.region false [⟨some 23, .mov none (.t 0), [], none⟩,
    ⟨some 24, .bin .and (.t 23) (.k (.one (.iv (.int .u8 15)))), [], none⟩,
    ⟨some 25, .conv .i64 (.t 24), [], none⟩,
    ⟨some 26, .build [.iv (.int .i64 0), .iv (.int .i64 0), .iv (.int .i64 0)] [(0, 1, .k (.one (.iv (.int .i64 3)))), (1, 1, .t 25), (2, 1, .k (.one (.iv (.int .i64 2048))))], [], none⟩,
    ⟨none, .store 3 (.t 2) (.t 26), [], none⟩])
  (.ret)) (.seq (.region false [⟨some 28, .mov none (.t 0), [], none⟩,
    ⟨some 29, .bin .lss (.t 28) (.k (.one (.iv (.int .u8 248)))), [], none⟩,
    ⟨some 27, .mov none (.t 29), [], none⟩])
  (.cond (.t 27) (.seq (.region false [⟨some 30, .mov none (.t 0), [], none⟩,
    ⟨some 31, .bin .and (.t 30) (.k (.one (.iv (.int .u8 7)))), [], none⟩,
    ⟨some 32, .conv .i64 (.t 31), [], none⟩,
    ⟨some 33, .build [.iv (.int .i64 0), .iv (.int .i64 0), .iv (.int .i64 0)] [(0, 1, .k (.one (.iv (.int .i64 4)))), (1, 1, .t 32), (2, 1, .k (.one (.iv (.int .i64 65536))))], [], none⟩,
    ⟨none, .store 3 (.t 2) (.t 33), [], none⟩])
  (.ret)) (.skip))))))))))))
  (.seq (.region false [⟨some 34, .build [.iv (.int .i64 0), .iv (.int .i64 0), .iv (.int .i64 0)] [], [], none⟩,
    ⟨none, .store 3 (.t 2) (.t 34), [], none⟩])
  (.ret)))
def v110 : VFn := ⟨1, 35, [.c 2 true 3], b110⟩

theorem c110 : chkFn Try.prog 110 v110 = true := by kernel_rfl

/- scholia/utf.Sign -/
def b111 : VCode := .seq (.region false [⟨some 2, .mov none (.k (.one (.iv (.bool false)))), [], none⟩])
  (.seq (.region false [⟨some 3, .mov none (.t 0), [], none⟩,
    ⟨some 4, .bin .geq (.t 3) (.k (.one (.iv (.int .i64 0)))), [], none⟩,
    ⟨some 5, .mov none (.t 4), [], none⟩,
    ⟨some 6, .mov none (.t 0), [], some (5, true)⟩,
    ⟨some 7, .bin .leq (.t 6) (.k (.one (.iv (.int .i64 1114111)))), [], some (5, true)⟩,
    ⟨some 8, .pick (.t 5) (.t 7) (.k (.one (.iv (.bool false)))), [], none⟩,
    ⟨some 9, .mov none (.t 8), [], none⟩,
    ⟨some 10, .mov none (.t 0), [], some (9, true)⟩,
    ⟨some 11, .bin .lss (.t 10) (.k (.one (.iv (.int .i64 55296)))), [], some (9, true)⟩,
    ⟨some 12, .mov none (.t 11), [], some (9, true)⟩,
    ⟨some 13, .mov none (.t 0), [], some (12, false)⟩,
    ⟨some 14, .bin .gtr (.t 13) (.k (.one (.iv (.int .i64 57343)))), [], some (12, false)⟩,
    ⟨some 15, .pick (.t 12) (.k (.one (.iv (.bool true)))) (.t 14), [], some (9, true)⟩,
    ⟨some 16, .pick (.t 9) (.t 15) (.k (.one (.iv (.bool false)))), [], none⟩,
    ⟨some 2, .mov none (.t 16), [], none⟩])
  (.ret))
def v111 : VFn := ⟨1, 17, [.t 2], b111⟩

theorem c111 : chkFn Try.prog 111 v111 = true := by kernel_rfl

/- cmp.isNaN[string] -/
def b114 : VCode := .seq (.region false [⟨some 2, .mov none (.k (.one (.iv (.bool false)))), [], none⟩])
  (.seq (.region false [⟨some 3, .mov none (.t 0), [], none⟩,
    ⟨some 4, .mov none (.t 0), [], none⟩,
    ⟨some 5, .bin .neq (.t 3) (.t 4), [], none⟩,
    ⟨some 2, .mov none (.t 5), [], none⟩])
  (.ret))
def v114 : VFn := ⟨1, 6, [.t 2], b114⟩

theorem c114 : chkFn Try.prog 114 v114 = true := by kernel_rfl

/- cmp.isNaN[int] -/
def b115 : VCode := .seq (.region false [⟨some 2, .mov none (.k (.one (.iv (.bool false)))), [], none⟩])
  (.seq (.region false [⟨some 3, .mov none (.t 0), [], none⟩,
    ⟨some 4, .mov none (.t 0), [], none⟩,
    ⟨some 5, .bin .neq (.t 3) (.t 4), [], none⟩,
    ⟨some 2, .mov none (.t 5), [], none⟩])
  (.ret))
def v115 : VFn := ⟨1, 6, [.t 2], b115⟩

theorem c115 : chkFn Try.prog 115 v115 = true := by kernel_rfl

/- slices.ContainsFunc[[]int,int] -/
def b117 : VCode := .seq (.region false [⟨some 4, .mov none (.k (.one (.iv (.bool false)))), [], none⟩])
  (.seq (.region false [⟨some 5, .mov none (.t 0), [], none⟩,
    ⟨some 6, .mov none (.t 1), [], none⟩,
    ⟨some 7, .call 134 [(false, .t 5), (false, .t 6)], [], none⟩,
    ⟨some 8, .bin .geq (.t 7) (.k (.one (.iv (.int .i64 0)))), [], none⟩,
    ⟨some 4, .mov none (.t 8), [], none⟩])
  (.ret))
def v117 : VFn := ⟨2, 9, [.t 4], b117⟩

theorem c117 : chkFn Try.prog 117 v117 = true := by kernel_rfl

/- scholia/dots.good$1 -/
def b118 : VCode := .seq (.region false [⟨some 2, .mov none (.k (.one (.iv (.bool false)))), [], none⟩])
  (.seq (.region false [⟨some 3, .mov none (.t 0), [], none⟩,
    ⟨some 4, .bin .lss (.t 3) (.k (.one (.iv (.int .i64 0)))), [], none⟩,
    ⟨some 5, .mov none (.t 4), [], none⟩,
    ⟨some 6, .mov none (.t 0), [], some (5, false)⟩,
    ⟨some 7, .bin .gtr (.t 6) (.k (.one (.iv (.int .i64 1073741824)))), [], some (5, false)⟩,
    ⟨some 8, .pick (.t 5) (.k (.one (.iv (.bool true)))) (.t 7), [], none⟩,
    ⟨some 2, .mov none (.t 8), [], none⟩])
  (.ret))
def v118 : VFn := ⟨1, 9, [.t 2], b118⟩

theorem c118 : chkFn Try.prog 118 v118 = true := by kernel_rfl

/- math/bits.Len64 -/
def b119 : VCode := .seq (.region false [⟨some 2, .mov none (.k (.one (.iv (.int .i64 0)))), [], none⟩])
  (.seq (.seq (.region false [⟨some 3, .mov none (.t 0), [], none⟩,
    ⟨some 4, .bin .geq (.t 3) (.k (.one (.iv (.int .u64 4294967296)))), [], none⟩])
  (.cond (.t 4) (.seq (.region false [⟨some 5, .mov none (.t 0), [], none⟩,
    ⟨some 6, .bin .shr (.t 5) (.k (.one (.iv (.int .u64 32)))), [], none⟩,
    ⟨some 0, .mov none (.t 6), [], none⟩])
  (.region false [⟨some 2, .mov none (.k (.one (.iv (.int .i64 32)))), [], none⟩])) (.skip)))
  (.seq (.seq (.region false [⟨some 7, .mov none (.t 0), [], none⟩,
    ⟨some 8, .bin .geq (.t 7) (.k (.one (.iv (.int .u64 65536)))), [], none⟩])
  (.cond (.t 8) (.seq (.region false [⟨some 9, .mov none (.t 0), [], none⟩,
    ⟨some 10, .bin .shr (.t 9) (.k (.one (.iv (.int .u64 16)))), [], none⟩,
    ⟨some 0, .mov none (.t 10), [], none⟩])
  (.region false [⟨some 11, .mov none (.t 2), [], none⟩,
    ⟨some 12, .bin .add (.t 11) (.k (.one (.iv (.int .i64 16)))), [], none⟩,
    ⟨some 2, .mov none (.t 12), [], none⟩])) (.skip)))
  (.seq (.seq (.region false [⟨some 13, .mov none (.t 0), [], none⟩,
    ⟨some 14, .bin .geq (.t 13) (.k (.one (.iv (.int .u64 256)))), [], none⟩])
  (.cond (.t 14) (.seq (.region false [⟨some 15, .mov none (.t 0), [], none⟩,
    ⟨some 16, .bin .shr (.t 15) (.k (.one (.iv (.int .u64 8)))), [], none⟩,
    ⟨some 0, .mov none (.t 16), [], none⟩])
  (.region false [⟨some 17, .mov none (.t 2), [], none⟩,
    ⟨some 18, .bin .add (.t 17) (.k (.one (.iv (.int .i64 8)))), [], none⟩,
    ⟨some 2, .mov none (.t 18), [], none⟩])) (.skip)))
  (.seq (.region false [⟨some 19, .mov none (.t 2), [], none⟩,
    ⟨some 20, .mov none (.t 0), [], none⟩,
    ⟨some 21, .conv .u8 (.t 20), [], none⟩,
    ⟨some 22, .ixT (.k (.one (.iv (.str ⟨#[0, 1, 2, 2, 3, 3, 3, 3, 4, 4, 4, 4, 4, 4, 4, 4, 5, 5, 5, 5, 5, 5, 5, 5, 5, 5, 5, 5, 5, 5, 5, 5, 6, 6, 6, 6, 6, 6, 6, 6, 6, 6, 6, 6, 6, 6, 6, 6, 6, 6, 6, 6, 6, 6, 6, 6, 6, 6, 6, 6, 6, 6, 6, 6, 7, 7, 7, 7, 7, 7, 7, 7, 7, 7, 7, 7, 7, 7, 7, 7, 7, 7, 7, 7, 7, 7, 7, 7, 7, 7, 7, 7, 7, 7, 7, 7, 7, 7, 7, 7, 7, 7, 7, 7, 7, 7, 7, 7, 7, 7, 7, 7, 7, 7, 7, 7, 7, 7, 7, 7, 7, 7, 7, 7, 7, 7, 7, 7, 8, 8, 8, 8, 8, 8, 8, 8, 8, 8, 8, 8, 8, 8, 8, 8, 8, 8, 8, 8, 8, 8, 8, 8, 8, 8, 8, 8, 8, 8, 8, 8, 8, 8, 8, 8, 8, 8, 8, 8, 8, 8, 8, 8, 8, 8, 8, 8, 8, 8, 8, 8, 8, 8, 8, 8, 8, 8, 8, 8, 8, 8, 8, 8, 8, 8, 8, 8, 8, 8, 8, 8, 8, 8, 8, 8, 8, 8, 8, 8, 8, 8, 8, 8, 8, 8, 8, 8, 8, 8, 8, 8, 8, 8, 8, 8, 8, 8, 8, 8, 8, 8, 8, 8, 8, 8, 8, 8, 8, 8, 8, 8, 8, 8, 8, 8, 8, 8, 8, 8, 8, 8, 8, 8, 8, 8, 8, 8]⟩)))) (.t 21), [], none⟩,
    ⟨some 23, .conv .i64 (.t 22), [], none⟩,
    ⟨some 24, .bin .add (.t 19) (.t 23), [], none⟩,
    ⟨some 2, .mov none (.t 24), [], none⟩])
  (.ret)))))
def v119 : VFn := ⟨1, 25, [.t 2], b119⟩

theorem c119 : chkFn Try.prog 119 v119 = true := by kernel_rfl

/- math/bits.LeadingZeros8 -/
def b120 : VCode := .seq (.region false [⟨some 2, .mov none (.k (.one (.iv (.int .i64 0)))), [], none⟩])
  (.seq (.region false [⟨some 3, .mov none (.t 0), [], none⟩,
    ⟨some 4, .call 135 [(false, .t 3)], [], none⟩,
    ⟨some 5, .bin .sub (.k (.one (.iv (.int .i64 8)))) (.t 4), [], none⟩,
    ⟨some 2, .mov none (.t 5), [], none⟩])
  (.ret))
def v120 : VFn := ⟨1, 6, [.t 2], b120⟩

theorem c120 : chkFn Try.prog 120 v120 = true := by kernel_rfl

/- slices.insertionSortCmpFunc[scholia/api.Write] -/
def l122_1 : VCode := .seq (.seq (.region true [⟨some 18, .mov none (.t 9), [], none⟩,
    ⟨some 19, .mov none (.t 1), [], none⟩,
    ⟨some 20, .bin .gtr (.t 18) (.t 19), [1, 0], none⟩,
    ⟨some 21, .mov none (.t 20), [2], none⟩,
    ⟨some 22, .mov none (.t 3), [3], some (21, true)⟩,
    ⟨some 23, .mov none (.t 0), [3], some (21, true)⟩,
    ⟨some 24, .mov none (.t 9), [3], some (21, true)⟩,
    ⟨some 25, .ixS 6 (.t 23) (.t 24), [6, 5], some (21, true)⟩,
    ⟨some 26, .load true 6 (.t 25), [7], some (21, true)⟩,
    ⟨some 27, .mov none (.t 0), [3], some (21, true)⟩,
    ⟨some 28, .mov none (.t 9), [3], some (21, true)⟩,
    ⟨some 29, .bin .sub (.t 28) (.k (.one (.iv (.int .i64 1)))), [10], some (21, true)⟩,
    ⟨some 30, .ixS 6 (.t 27) (.t 29), [11, 9], some (21, true)⟩,
    ⟨some 31, .load true 6 (.t 30), [12], some (21, true)⟩,
    ⟨some 32, .callv (.t 22) [(false, .t 26), (false, .t 31)], [13, 8, 4], some (21, true)⟩,
    ⟨some 33, .bin .lss (.t 32) (.k (.one (.iv (.int .i64 0)))), [14], some (21, true)⟩,
    ⟨some 34, .pick (.t 21) (.t 33) (.k (.one (.iv (.bool false)))), [15], none⟩])
  (.cond (.t 34) (.skip) (.exit 2)))
  (.seq (.block 3 (.region true [⟨some 37, .mov none (.t 0), [], none⟩,
    ⟨some 38, .mov none (.t 9), [], none⟩,
    ⟨some 39, .mov none (.t 0), [], none⟩,
    ⟨some 40, .mov none (.t 9), [], none⟩,
    ⟨some 41, .bin .sub (.t 40) (.k (.one (.iv (.int .i64 1)))), [3], none⟩,
    ⟨some 42, .mov none (.t 0), [], none⟩,
    ⟨some 43, .mov none (.t 9), [], none⟩,
    ⟨some 44, .bin .sub (.t 43) (.k (.one (.iv (.int .i64 1)))), [6], none⟩,
    ⟨some 45, .ixS 6 (.t 42) (.t 44), [7, 5], none⟩,
    ⟨some 46, .load true 6 (.t 45), [8], none⟩,
    ⟨some 47, .mov none (.t 0), [], none⟩,
    ⟨some 48, .mov none (.t 9), [], none⟩,
    ⟨some 49, .ixS 6 (.t 47) (.t 48), [11, 10], none⟩,
    ⟨some 50, .load true 6 (.t 49), [12], none⟩,
    ⟨some 51, .ixS 6 (.t 37) (.t 38), [13, 9, 1, 0], none⟩,
    ⟨none, .store 6 (.t 51) (.t 46), [14], none⟩,
    ⟨some 52, .ixS 6 (.t 39) (.t 41), [15, 4, 2], none⟩,
    ⟨none, .store 6 (.t 52) (.t 50), [16], none⟩]))
  (.region false [⟨some 35, .mov none (.t 9), [], none⟩,
    ⟨some 36, .bin .sub (.t 35) (.k (.one (.iv (.int .i64 1)))), [], none⟩,
    ⟨some 9, .mov none (.t 36), [], none⟩]))
def l122_0 : VCode := .seq (.seq (.region false [⟨some 12, .mov none (.t 8), [], none⟩,
    ⟨some 13, .mov none (.t 2), [], none⟩,
    ⟨some 14, .bin .lss (.t 12) (.t 13), [], none⟩])
  (.cond (.t 14) (.skip) (.exit 0)))
  (.seq (.block 1 (.seq (.region false [⟨some 17, .mov none (.t 8), [], none⟩,
    ⟨some 9, .mov none (.t 17), [], none⟩])
  (.block 2 (.loop false [0, 1, 2, 3, 8, 9] l122_1))))
  (.region false [⟨some 15, .mov none (.t 8), [], none⟩,
    ⟨some 16, .bin .add (.t 15) (.k (.one (.iv (.int .i64 1)))), [], none⟩,
    ⟨some 8, .mov none (.t 16), [], none⟩]))
def b122 : VCode := .seq (.region false [⟨some 10, .mov none (.t 1), [], none⟩,
    ⟨some 11, .bin .add (.t 10) (.k (.one (.iv (.int .i64 1)))), [], none⟩,
    ⟨some 8, .mov none (.t 11), [], none⟩])
  (.block 0 (.loop false [0, 1, 2, 3, 8] l122_0))
def v122 : VFn := ⟨4, 53, [], b122⟩

theorem c122 : chkFn Try.prog 122 v122 = true := by kernel_rfl

/- slices.IndexFunc[[]int,int] -/
def l134_0 : VCode := .seq (.region false [⟨some 9, .bin .lss (.t 8) (.t 7), [], none⟩])
  (.seq (.cond (.t 9) (.skip) (.exit 0))
  (.seq (.block 1 (.seq (.region false [⟨some 10, .mov none (.t 8), [], none⟩,
    ⟨some 5, .mov none (.t 10), [], none⟩])
  (.seq (.region false [⟨some 11, .mov none (.t 1), [], none⟩,
    ⟨some 12, .mov none (.t 0), [], none⟩,
    ⟨some 13, .mov none (.t 5), [], none⟩,
    ⟨some 14, .ixS 1 (.t 12) (.t 13), [], none⟩,
    ⟨some 15, .load false 1 (.t 14), [], none⟩,
    ⟨some 16, .callv (.t 11) [(false, .t 15)], [], none⟩])
  (.cond (.t 16) (.seq (.region false [⟨some 17, .mov none (.t 5), [], none⟩,
    ⟨some 4, .mov none (.t 17), [], none⟩])
  (.ret)) (.skip)))))
  (.region false [⟨some 18, .bin .add (.t 8) (.k (.one (.iv (.int .i64 1)))), [], none⟩,
    ⟨some 8, .mov none (.t 18), [], none⟩])))
def b134 : VCode := .seq (.region false [⟨some 4, .mov none (.k (.one (.iv (.int .i64 0)))), [], none⟩])
  (.seq (.seq (.region false [⟨some 6, .mov none (.t 0), [], none⟩,
    ⟨some 7, .blt .len [.t 6], [], none⟩,
    ⟨some 8, .mov none (.k (.one (.iv (.int .i64 0)))), [], none⟩])
  (.block 0 (.loop false [0, 1, 7, 8] l134_0)))
  (.seq (.region false [⟨some 4, .mov none (.k (.one (.iv (.int .i64 (-1))))), [], none⟩])
  (.ret)))
def v134 : VFn := ⟨2, 19, [.t 4], b134⟩

theorem c134 : chkFn Try.prog 134 v134 = true := by kernel_rfl

/- math/bits.Len8 -/
def b135 : VCode := .seq (.region false [⟨some 2, .mov none (.k (.one (.iv (.int .i64 0)))), [], none⟩])
  (.seq (.region false [⟨some 3, .mov none (.t 0), [], none⟩,
    ⟨some 4, .ixT (.k (.one (.iv (.str ⟨#[0, 1, 2, 2, 3, 3, 3, 3, 4, 4, 4, 4, 4, 4, 4, 4, 5, 5, 5, 5, 5, 5, 5, 5, 5, 5, 5, 5, 5, 5, 5, 5, 6, 6, 6, 6, 6, 6, 6, 6, 6, 6, 6, 6, 6, 6, 6, 6, 6, 6, 6, 6, 6, 6, 6, 6, 6, 6, 6, 6, 6, 6, 6, 6, 7, 7, 7, 7, 7, 7, 7, 7, 7, 7, 7, 7, 7, 7, 7, 7, 7, 7, 7, 7, 7, 7, 7, 7, 7, 7, 7, 7, 7, 7, 7, 7, 7, 7, 7, 7, 7, 7, 7, 7, 7, 7, 7, 7, 7, 7, 7, 7, 7, 7, 7, 7, 7, 7, 7, 7, 7, 7, 7, 7, 7, 7, 7, 7, 8, 8, 8, 8, 8, 8, 8, 8, 8, 8, 8, 8, 8, 8, 8, 8, 8, 8, 8, 8, 8, 8, 8, 8, 8, 8, 8, 8, 8, 8, 8, 8, 8, 8, 8, 8, 8, 8, 8, 8, 8, 8, 8, 8, 8, 8, 8, 8, 8, 8, 8, 8, 8, 8, 8, 8, 8, 8, 8, 8, 8, 8, 8, 8, 8, 8, 8, 8, 8, 8, 8, 8, 8, 8, 8, 8, 8, 8, 8, 8, 8, 8, 8, 8, 8, 8, 8, 8, 8, 8, 8, 8, 8, 8, 8, 8, 8, 8, 8, 8, 8, 8, 8, 8, 8, 8, 8, 8, 8, 8, 8, 8, 8, 8, 8, 8, 8, 8, 8, 8, 8, 8, 8, 8, 8, 8, 8, 8]⟩)))) (.t 3), [], none⟩,
    ⟨some 5, .conv .i64 (.t 4), [], none⟩,
    ⟨some 2, .mov none (.t 5), [], none⟩])
  (.ret))
def v135 : VFn := ⟨1, 6, [.t 2], b135⟩

theorem c135 : chkFn Try.prog 135 v135 = true := by kernel_rfl

def tab : List (Nat × VFn) := [(6, v6), (10, v10), (11, v11), (13, v13), (15, v15), (17, v17), (19, v19), (25, v25), (27, v27), (28, v28), (29, v29), (30, v30), (31, v31), (32, v32), (36, v36), (37, v37), (39, v39), (40, v40), (47, v47), (48, v48), (49, v49), (50, v50), (51, v51), (52, v52), (53, v53), (54, v54), (55, v55), (61, v61), (63, v63), (64, v64), (65, v65), (66, v66), (67, v67), (68, v68), (69, v69), (70, v70), (71, v71), (72, v72), (73, v73), (81, v81), (82, v82), (83, v83), (84, v84), (86, v86), (87, v87), (88, v88), (89, v89), (90, v90), (91, v91), (97, v97), (98, v98), (99, v99), (100, v100), (101, v101), (102, v102), (109, v109), (110, v110), (111, v111), (114, v114), (115, v115), (117, v117), (118, v118), (119, v119), (120, v120), (122, v122), (134, v134), (135, v135)]

theorem tab_ok : TabOK Try.prog (lookT tab) := tabOK_cons c6 (tabOK_cons c10 (tabOK_cons c11 (tabOK_cons c13 (tabOK_cons c15 (tabOK_cons c17 (tabOK_cons c19 (tabOK_cons c25 (tabOK_cons c27 (tabOK_cons c28 (tabOK_cons c29 (tabOK_cons c30 (tabOK_cons c31 (tabOK_cons c32 (tabOK_cons c36 (tabOK_cons c37 (tabOK_cons c39 (tabOK_cons c40 (tabOK_cons c47 (tabOK_cons c48 (tabOK_cons c49 (tabOK_cons c50 (tabOK_cons c51 (tabOK_cons c52 (tabOK_cons c53 (tabOK_cons c54 (tabOK_cons c55 (tabOK_cons c61 (tabOK_cons c63 (tabOK_cons c64 (tabOK_cons c65 (tabOK_cons c66 (tabOK_cons c67 (tabOK_cons c68 (tabOK_cons c69 (tabOK_cons c70 (tabOK_cons c71 (tabOK_cons c72 (tabOK_cons c73 (tabOK_cons c81 (tabOK_cons c82 (tabOK_cons c83 (tabOK_cons c84 (tabOK_cons c86 (tabOK_cons c87 (tabOK_cons c88 (tabOK_cons c89 (tabOK_cons c90 (tabOK_cons c91 (tabOK_cons c97 (tabOK_cons c98 (tabOK_cons c99 (tabOK_cons c100 (tabOK_cons c101 (tabOK_cons c102 (tabOK_cons c109 (tabOK_cons c110 (tabOK_cons c111 (tabOK_cons c114 (tabOK_cons c115 (tabOK_cons c117 (tabOK_cons c118 (tabOK_cons c119 (tabOK_cons c120 (tabOK_cons c122 (tabOK_cons c134 (tabOK_cons c135 tabOK_nil))))))))))))))))))))))))))))))))))))))))))))))))))))))))))))))))))

def clones : List (Nat × Nat × Nat) := [(46, 6, 64)]

theorem clones_ok : chkClones Try.prog clones = true := by kernel_rfl

theorem mixed : Try.prog.follows .mixedOrders = true := by kernel_rfl

theorem pr_ok : PrOK Try.prog (fun _ => clonePr clones) := fun _ _ _ => clonePr_ok mixed clones_ok

theorem pr_mono : PrMono (fun _ => clonePr clones) := const_mono

abbrev Pl (f : Nat) (vs : List FV) (v : FV) (bs : List Blk) : Prop := Plays (lookT tab) (fun _ => clonePr clones) f vs [] (v, bs)

end Go.Proofs.Ytanpphoehajcgaa
