/- The code of the functions that a statement reaches, as V-code, checked against the program. Printed by a program. -/
import Derived.Test.YtomchclmnmhjaaaVBI
import Derived.Test.YtomchclmnmhjaaaChecked
import Derived.KernelRfl
set_option maxRecDepth 100000
namespace Go.Proofs.Ytomchclmnmhjaaa
open Go GoV

/- scholia/scholialaw08.DotsTidy -/
def b6 : VCode := .seq (.region false [⟨some 2, .box (.t 0), [], none⟩,
    ⟨some 3, .box (.t 1), [], none⟩,
    ⟨some 4, .mov none (.k (.one (.iv (.bool false)))), [], none⟩])
  (.seq (.seq (.region false [⟨some 7, .fad 64 (.t 2), [], none⟩,
    ⟨some 8, .load false 1 (.t 7), [], none⟩,
    ⟨some 9, .blt .len [.t 8], [], none⟩,
    ⟨some 10, .bin .gtr (.t 9) (.k (.one (.iv (.int .i64 60)))), [], none⟩])
  (.cond (.t 10) (.seq (.region false [⟨some 11, .call 25 [], [], none⟩,
    ⟨some 4, .mov none (.t 11), [], none⟩])
  (.ret)) (.skip)))
  (.seq (.region true [⟨some 12, .load true 65 (.t 2), [], none⟩,
    ⟨some 13, .call 34 [(false, .t 12)], [0], none⟩,
    ⟨some 14, .load true 65 (.t 2), [], none⟩,
    ⟨some 15, .call 35 [(false, .t 14)], [2, 1], none⟩,
    ⟨some 5, .new [.iv (.arr 64 (List.replicate 64 (.int .i64 0))), .iv (.sl true 0 [])], [], none⟩,
    ⟨some 6, .new [.iv (.arr 64 (List.replicate 64 (.int .i64 0))), .iv (.sl true 0 [])], [], none⟩,
    ⟨none, .store 65 (.t 5) (.t 13), [5, 4, 3], none⟩,
    ⟨none, .store 65 (.t 6) (.t 15), [6], none⟩])
  (.seq (.region true [⟨some 16, .load true 65 (.t 5), [], none⟩,
    ⟨some 17, .load true 65 (.t 6), [], none⟩,
    ⟨some 18, .call 36 [(false, .t 16), (false, .t 17)], [1, 0], none⟩,
    ⟨some 19, .mov none (.t 18), [2], none⟩,
    ⟨some 20, .load true 65 (.t 2), [3], some (19, true)⟩,
    ⟨some 21, .load true 2 (.t 3), [3], some (19, true)⟩,
    ⟨some 22, .call 37 [(false, .t 20), (false, .t 21)], [5, 4], some (19, true)⟩,
    ⟨some 23, .load true 65 (.t 2), [3], some (19, true)⟩,
    ⟨some 24, .load true 2 (.t 3), [3], some (19, true)⟩,
    ⟨some 25, .call 38 [(false, .t 23), (false, .t 24)], [8, 7, 6], some (19, true)⟩,
    ⟨some 26, .eqs .eql .bool (.t 22) (.t 25), [9], some (19, true)⟩,
    ⟨some 27, .pick (.t 19) (.t 26) (.k (.one (.iv (.bool false)))), [10], none⟩,
    ⟨some 28, .mov none (.t 27), [11], none⟩,
    ⟨some 29, .load true 65 (.t 2), [12], some (28, true)⟩,
    ⟨some 30, .call 39 [(false, .t 29)], [13], some (28, true)⟩,
    ⟨some 31, .fad 64 (.t 6), [12], some (28, true)⟩,
    ⟨some 32, .load false 1 (.t 31), [15], some (28, true)⟩,
    ⟨some 33, .blt .len [.t 32], [16], some (28, true)⟩,
    ⟨some 34, .bin .eql (.t 33) (.k (.one (.iv (.int .i64 0)))), [17], some (28, true)⟩,
    ⟨some 35, .eqs .eql .bool (.t 30) (.t 34), [18, 14], some (28, true)⟩,
    ⟨some 36, .pick (.t 28) (.t 35) (.k (.one (.iv (.bool false)))), [19], none⟩,
    ⟨some 37, .mov none (.t 36), [20], none⟩,
    ⟨some 38, .call 25 [], [21], some (37, true)⟩,
    ⟨some 39, .pick (.t 37) (.t 38) (.k (.one (.iv (.bool false)))), [22], none⟩,
    ⟨some 4, .mov none (.t 39), [23], none⟩])
  (.ret))))
def v6 : VFn := ⟨2, 40, [.t 4], b6⟩

theorem c6 : chkFn Try.prog 6 v6 = true := by kernel_rfl

/- scholia/scholialaw08.DotsUnion -/
def b7 : VCode := .seq (.region false [⟨some 3, .box (.t 0), [], none⟩,
    ⟨some 4, .box (.t 1), [], none⟩,
    ⟨some 6, .mov none (.k (.one (.iv (.bool false)))), [], none⟩])
  (.seq (.seq (.region false [⟨some 10, .fad 64 (.t 3), [], none⟩,
    ⟨some 11, .load false 1 (.t 10), [], none⟩,
    ⟨some 12, .blt .len [.t 11], [], none⟩,
    ⟨some 13, .bin .gtr (.t 12) (.k (.one (.iv (.int .i64 60)))), [], none⟩,
    ⟨some 14, .mov none (.t 13), [], none⟩,
    ⟨some 15, .fad 64 (.t 4), [], some (14, false)⟩,
    ⟨some 16, .load false 1 (.t 15), [], some (14, false)⟩,
    ⟨some 17, .blt .len [.t 16], [], some (14, false)⟩,
    ⟨some 18, .bin .gtr (.t 17) (.k (.one (.iv (.int .i64 60)))), [], some (14, false)⟩,
    ⟨some 19, .pick (.t 14) (.k (.one (.iv (.bool true)))) (.t 18), [], none⟩,
    ⟨some 20, .mov none (.t 19), [], none⟩,
    ⟨some 21, .mov none (.t 2), [], some (20, false)⟩,
    ⟨some 22, .blt .len [.t 21], [], some (20, false)⟩,
    ⟨some 23, .bin .gtr (.t 22) (.k (.one (.iv (.int .i64 60)))), [], some (20, false)⟩,
    ⟨some 24, .pick (.t 20) (.k (.one (.iv (.bool true)))) (.t 23), [], none⟩])
  (.cond (.t 24) (.seq (.region false [⟨some 25, .call 25 [], [], none⟩,
    ⟨some 6, .mov none (.t 25), [], none⟩])
  (.ret)) (.skip)))
  (.seq (.region false [⟨some 26, .load true 65 (.t 3), [], none⟩,
    ⟨some 27, .load true 65 (.t 4), [], none⟩,
    ⟨some 28, .call 40 [(false, .t 26), (false, .t 27)], [], none⟩,
    ⟨some 29, .call 35 [(false, .t 28)], [], none⟩,
    ⟨some 7, .new [.iv (.arr 64 (List.replicate 64 (.int .i64 0))), .iv (.sl true 0 [])], [], none⟩,
    ⟨none, .store 65 (.t 7) (.t 29), [], none⟩])
  (.seq (.region false [⟨some 30, .load true 65 (.t 3), [], none⟩,
    ⟨some 31, .mov none (.t 2), [], none⟩,
    ⟨some 32, .build [.iv (.arr 64 (List.replicate 64 (.int .i64 0))), .iv (.sl true 0 [])] [(64, 1, .t 31)], [], none⟩,
    ⟨some 33, .call 40 [(false, .t 30), (false, .t 32)], [], none⟩,
    ⟨some 34, .call 35 [(false, .t 33)], [], none⟩,
    ⟨some 8, .new [.iv (.arr 64 (List.replicate 64 (.int .i64 0))), .iv (.sl true 0 [])], [], none⟩,
    ⟨none, .store 65 (.t 8) (.t 34), [], none⟩])
  (.seq (.region true [⟨some 35, .load true 65 (.t 7), [], none⟩,
    ⟨some 36, .load true 65 (.t 4), [], none⟩,
    ⟨some 37, .call 35 [(false, .t 36)], [1], none⟩,
    ⟨some 38, .call 36 [(false, .t 35), (false, .t 37)], [2, 0], none⟩,
    ⟨some 9, .mov none (.t 38), [3], none⟩])
  (.seq (.region true [⟨some 39, .load true 65 (.t 3), [], none⟩,
    ⟨some 40, .load true 65 (.t 4), [], none⟩,
    ⟨some 41, .call 41 [(false, .t 39), (false, .t 40)], [1, 0], none⟩,
    ⟨some 42, .load true 65 (.t 7), [], none⟩,
    ⟨some 43, .call 36 [(false, .t 41), (false, .t 42)], [3, 2], none⟩,
    ⟨some 44, .mov none (.t 43), [4], none⟩,
    ⟨some 45, .load true 65 (.t 3), [5], some (44, true)⟩,
    ⟨some 46, .mov none (.t 2), [5], some (44, true)⟩,
    ⟨some 47, .call 42 [(false, .t 45), (false, .t 46)], [7, 6], some (44, true)⟩,
    ⟨some 48, .load true 65 (.t 8), [5], some (44, true)⟩,
    ⟨some 49, .call 36 [(false, .t 47), (false, .t 48)], [9, 8], some (44, true)⟩,
    ⟨some 50, .pick (.t 44) (.t 49) (.k (.one (.iv (.bool false)))), [10], none⟩,
    ⟨some 51, .mov none (.t 50), [11], none⟩,
    ⟨some 52, .load true 65 (.t 3), [12], some (51, true)⟩,
    ⟨some 53, .load true 65 (.t 4), [12], some (51, true)⟩,
    ⟨some 54, .call 43 [(false, .t 52), (false, .t 53)], [14, 13], some (51, true)⟩,
    ⟨some 55, .mov none (.t 9), [12], some (51, true)⟩,
    ⟨some 56, .eqs .eql .bool (.t 54) (.t 55), [16, 15], some (51, true)⟩,
    ⟨some 57, .pick (.t 51) (.t 56) (.k (.one (.iv (.bool false)))), [17], none⟩,
    ⟨some 58, .mov none (.t 57), [18], none⟩,
    ⟨some 59, .call 25 [], [19], some (58, true)⟩,
    ⟨some 60, .pick (.t 58) (.t 59) (.k (.one (.iv (.bool false)))), [20], none⟩,
    ⟨some 6, .mov none (.t 60), [21], none⟩])
  (.ret))))))
def v7 : VFn := ⟨3, 61, [.t 6], b7⟩

theorem c7 : chkFn Try.prog 7 v7 = true := by kernel_rfl

/- scholia/scholialaw08.DotsKnown -/
def b8 : VCode := .seq (.region false [⟨some 3, .box (.t 0), [], none⟩,
    ⟨some 4, .box (.t 1), [], none⟩,
    ⟨some 5, .box (.t 2), [], none⟩,
    ⟨some 6, .mov none (.k (.one (.iv (.bool false)))), [], none⟩])
  (.seq (.seq (.region false [⟨some 8, .fad 64 (.t 3), [], none⟩,
    ⟨some 9, .load false 1 (.t 8), [], none⟩,
    ⟨some 10, .blt .len [.t 9], [], none⟩,
    ⟨some 11, .bin .gtr (.t 10) (.k (.one (.iv (.int .i64 60)))), [], none⟩,
    ⟨some 12, .mov none (.t 11), [], none⟩,
    ⟨some 13, .fad 64 (.t 4), [], some (12, false)⟩,
    ⟨some 14, .load false 1 (.t 13), [], some (12, false)⟩,
    ⟨some 15, .blt .len [.t 14], [], some (12, false)⟩,
    ⟨some 16, .bin .gtr (.t 15) (.k (.one (.iv (.int .i64 60)))), [], some (12, false)⟩,
    ⟨some 17, .pick (.t 12) (.k (.one (.iv (.bool true)))) (.t 16), [], none⟩])
  (.cond (.t 17) (.seq (.region false [⟨some 18, .call 25 [], [], none⟩,
    ⟨some 6, .mov none (.t 18), [], none⟩])
  (.ret)) (.skip)))
  (.seq (.region false [⟨some 19, .load true 65 (.t 3), [], none⟩,
    ⟨some 20, .load true 65 (.t 4), [], none⟩,
    ⟨some 21, .call 41 [(false, .t 19), (false, .t 20)], [], none⟩,
    ⟨some 7, .new [.iv (.arr 64 (List.replicate 64 (.int .i64 0))), .iv (.sl true 0 [])], [], none⟩,
    ⟨none, .store 65 (.t 7) (.t 21), [], none⟩])
  (.seq (.region true [⟨some 22, .load true 65 (.t 7), [], none⟩,
    ⟨some 23, .load true 2 (.t 5), [], none⟩,
    ⟨some 24, .call 37 [(false, .t 22), (false, .t 23)], [1, 0], none⟩,
    ⟨some 25, .load true 65 (.t 3), [], none⟩,
    ⟨some 26, .load true 2 (.t 5), [], none⟩,
    ⟨some 27, .call 37 [(false, .t 25), (false, .t 26)], [4, 3, 2], none⟩,
    ⟨some 28, .mov none (.t 27), [5], none⟩,
    ⟨some 29, .load true 65 (.t 4), [6], some (28, false)⟩,
    ⟨some 30, .load true 2 (.t 5), [6], some (28, false)⟩,
    ⟨some 31, .call 37 [(false, .t 29), (false, .t 30)], [8, 7], some (28, false)⟩,
    ⟨some 32, .pick (.t 28) (.k (.one (.iv (.bool true)))) (.t 31), [9], none⟩,
    ⟨some 33, .eqs .eql .bool (.t 24) (.t 32), [10], none⟩,
    ⟨some 34, .mov none (.t 33), [11], none⟩,
    ⟨some 35, .load true 65 (.t 3), [12], some (34, true)⟩,
    ⟨some 36, .call 34 [(false, .t 35)], [13], some (34, true)⟩,
    ⟨some 37, .load true 2 (.t 5), [12], some (34, true)⟩,
    ⟨some 38, .call 37 [(false, .t 36), (false, .t 37)], [15, 14], some (34, true)⟩,
    ⟨some 39, .load true 65 (.t 3), [12], some (34, true)⟩,
    ⟨some 40, .load true 2 (.t 5), [12], some (34, true)⟩,
    ⟨some 41, .call 37 [(false, .t 39), (false, .t 40)], [18, 17, 16], some (34, true)⟩,
    ⟨some 42, .eqs .eql .bool (.t 38) (.t 41), [19], some (34, true)⟩,
    ⟨some 43, .pick (.t 34) (.t 42) (.k (.one (.iv (.bool false)))), [20], none⟩,
    ⟨some 44, .mov none (.t 43), [21], none⟩,
    ⟨some 45, .load true 65 (.t 4), [22], some (44, true)⟩,
    ⟨some 46, .load true 65 (.t 3), [22], some (44, true)⟩,
    ⟨some 47, .call 41 [(false, .t 45), (false, .t 46)], [24, 23], some (44, true)⟩,
    ⟨some 48, .load true 65 (.t 7), [22], some (44, true)⟩,
    ⟨some 49, .call 36 [(false, .t 47), (false, .t 48)], [26, 25], some (44, true)⟩,
    ⟨some 50, .pick (.t 44) (.t 49) (.k (.one (.iv (.bool false)))), [27], none⟩,
    ⟨some 51, .mov none (.t 50), [28], none⟩,
    ⟨some 52, .load true 65 (.t 7), [29], some (51, true)⟩,
    ⟨some 53, .load true 65 (.t 3), [29], some (51, true)⟩,
    ⟨some 54, .call 41 [(false, .t 52), (false, .t 53)], [31, 30], some (51, true)⟩,
    ⟨some 55, .load true 65 (.t 7), [29], some (51, true)⟩,
    ⟨some 56, .call 36 [(false, .t 54), (false, .t 55)], [33, 32], some (51, true)⟩,
    ⟨some 57, .pick (.t 51) (.t 56) (.k (.one (.iv (.bool false)))), [34], none⟩,
    ⟨some 58, .mov none (.t 57), [35], none⟩,
    ⟨some 59, .load true 65 (.t 3), [36], some (58, true)⟩,
    ⟨some 60, .load true 65 (.t 7), [36], some (58, true)⟩,
    ⟨some 61, .call 43 [(false, .t 59), (false, .t 60)], [38, 37], some (58, true)⟩,
    ⟨some 62, .pick (.t 58) (.t 61) (.k (.one (.iv (.bool false)))), [39], none⟩,
    ⟨some 63, .mov none (.t 62), [40], none⟩,
    ⟨some 64, .call 25 [], [41], some (63, true)⟩,
    ⟨some 65, .pick (.t 63) (.t 64) (.k (.one (.iv (.bool false)))), [42], none⟩,
    ⟨some 6, .mov none (.t 65), [43], none⟩])
  (.ret))))
def v8 : VFn := ⟨3, 66, [.t 6], b8⟩

theorem c8 : chkFn Try.prog 8 v8 = true := by kernel_rfl

/- scholia/dots.Compare -/
def b17 : VCode := .seq (.region false [⟨some 2, .box (.t 0), [], none⟩,
    ⟨some 3, .box (.t 1), [], none⟩,
    ⟨some 4, .mov none (.k (.one (.iv (.int .i64 0)))), [], none⟩])
  (.seq (.region true [⟨some 5, .fad 0 (.t 2), [], none⟩,
    ⟨some 6, .load false 1 (.t 5), [0], none⟩,
    ⟨some 7, .fad 0 (.t 3), [], none⟩,
    ⟨some 8, .load false 1 (.t 7), [2], none⟩,
    ⟨some 9, .call 77 [(false, .t 6), (false, .t 8)], [3, 1], none⟩,
    ⟨some 10, .fad 1 (.t 2), [], none⟩,
    ⟨some 11, .load false 1 (.t 10), [5], none⟩,
    ⟨some 12, .fad 1 (.t 3), [], none⟩,
    ⟨some 13, .load false 1 (.t 12), [7], none⟩,
    ⟨some 14, .call 77 [(false, .t 11), (false, .t 13)], [8, 6, 4], none⟩,
    ⟨some 15, .mks false 1 [.t 9, .t 14], [9], none⟩,
    ⟨some 16, .call 76 [(false, .t 15)], [10], none⟩,
    ⟨some 4, .mov none (.t 16), [11], none⟩])
  (.ret))
def v17 : VFn := ⟨2, 17, [.t 4], b17⟩

theorem c17 : chkFn Try.prog 17 v17 = true := by kernel_rfl

/- scholia/dots.Valid -/
def b18 : VCode := .seq (.region false [⟨some 1, .box (.t 0), [], none⟩,
    ⟨some 2, .mov none (.k (.one (.iv (.bool false)))), [], none⟩])
  (.seq (.region false [⟨some 3, .fad 0 (.t 1), [], none⟩,
    ⟨some 4, .load false 1 (.t 3), [], none⟩,
    ⟨some 5, .bin .geq (.t 4) (.k (.one (.iv (.int .i64 0)))), [], none⟩,
    ⟨some 6, .mov none (.t 5), [], none⟩,
    ⟨some 7, .fad 0 (.t 1), [], some (6, true)⟩,
    ⟨some 8, .load false 1 (.t 7), [], some (6, true)⟩,
    ⟨some 9, .bin .lss (.t 8) (.k (.one (.iv (.int .i64 64)))), [], some (6, true)⟩,
    ⟨some 10, .pick (.t 6) (.t 9) (.k (.one (.iv (.bool false)))), [], none⟩,
    ⟨some 11, .mov none (.t 10), [], none⟩,
    ⟨some 12, .fad 1 (.t 1), [], some (11, true)⟩,
    ⟨some 13, .load false 1 (.t 12), [], some (11, true)⟩,
    ⟨some 14, .bin .geq (.t 13) (.k (.one (.iv (.int .i64 1)))), [], some (11, true)⟩,
    ⟨some 15, .pick (.t 11) (.t 14) (.k (.one (.iv (.bool false)))), [], none⟩,
    ⟨some 16, .mov none (.t 15), [], none⟩,
    ⟨some 17, .fad 1 (.t 1), [], some (16, true)⟩,
    ⟨some 18, .load false 1 (.t 17), [], some (16, true)⟩,
    ⟨some 19, .bin .leq (.t 18) (.k (.one (.iv (.int .i64 1073741824)))), [], some (16, true)⟩,
    ⟨some 20, .pick (.t 16) (.t 19) (.k (.one (.iv (.bool false)))), [], none⟩,
    ⟨some 2, .mov none (.t 20), [], none⟩])
  (.ret))
def v18 : VFn := ⟨1, 21, [.t 2], b18⟩

theorem c18 : chkFn Try.prog 18 v18 = true := by kernel_rfl

/- scholia/scholiaref08.Valid -/
def b19 : VCode := .seq (.region false [⟨some 1, .box (.t 0), [], none⟩,
    ⟨some 2, .mov none (.k (.one (.iv (.bool false)))), [], none⟩])
  (.seq (.region false [⟨some 3, .fad 0 (.t 1), [], none⟩,
    ⟨some 4, .load false 1 (.t 3), [], none⟩,
    ⟨some 5, .bin .geq (.t 4) (.k (.one (.iv (.int .i64 0)))), [], none⟩,
    ⟨some 6, .mov none (.t 5), [], none⟩,
    ⟨some 7, .fad 0 (.t 1), [], some (6, true)⟩,
    ⟨some 8, .load false 1 (.t 7), [], some (6, true)⟩,
    ⟨some 9, .bin .leq (.t 8) (.k (.one (.iv (.int .i64 63)))), [], some (6, true)⟩,
    ⟨some 10, .pick (.t 6) (.t 9) (.k (.one (.iv (.bool false)))), [], none⟩,
    ⟨some 11, .mov none (.t 10), [], none⟩,
    ⟨some 12, .fad 1 (.t 1), [], some (11, true)⟩,
    ⟨some 13, .load false 1 (.t 12), [], some (11, true)⟩,
    ⟨some 14, .bin .geq (.t 13) (.k (.one (.iv (.int .i64 1)))), [], some (11, true)⟩,
    ⟨some 15, .pick (.t 11) (.t 14) (.k (.one (.iv (.bool false)))), [], none⟩,
    ⟨some 16, .mov none (.t 15), [], none⟩,
    ⟨some 17, .fad 1 (.t 1), [], some (16, true)⟩,
    ⟨some 18, .load false 1 (.t 17), [], some (16, true)⟩,
    ⟨some 19, .bin .leq (.t 18) (.k (.one (.iv (.int .i64 1073741824)))), [], some (16, true)⟩,
    ⟨some 20, .pick (.t 16) (.t 19) (.k (.one (.iv (.bool false)))), [], none⟩,
    ⟨some 2, .mov none (.t 20), [], none⟩])
  (.ret))
def v19 : VFn := ⟨1, 21, [.t 2], b19⟩

theorem c19 : chkFn Try.prog 19 v19 = true := by kernel_rfl

/- scholia/scholiaref08.Less -/
def b20 : VCode := .seq (.region false [⟨some 2, .box (.t 0), [], none⟩,
    ⟨some 3, .box (.t 1), [], none⟩,
    ⟨some 4, .mov none (.k (.one (.iv (.bool false)))), [], none⟩])
  (.seq (.region false [⟨some 5, .fad 0 (.t 2), [], none⟩,
    ⟨some 6, .load false 1 (.t 5), [], none⟩,
    ⟨some 7, .fad 0 (.t 3), [], none⟩,
    ⟨some 8, .load false 1 (.t 7), [], none⟩,
    ⟨some 9, .bin .lss (.t 6) (.t 8), [], none⟩,
    ⟨some 10, .mov none (.t 9), [], none⟩,
    ⟨some 11, .fad 0 (.t 2), [], some (10, false)⟩,
    ⟨some 12, .load false 1 (.t 11), [], some (10, false)⟩,
    ⟨some 13, .fad 0 (.t 3), [], some (10, false)⟩,
    ⟨some 14, .load false 1 (.t 13), [], some (10, false)⟩,
    ⟨some 15, .bin .eql (.t 12) (.t 14), [], some (10, false)⟩,
    ⟨some 16, .mov none (.t 15), [], some (10, false)⟩,
    ⟨some 17, .fad 1 (.t 2), [], some (16, true)⟩,
    ⟨some 18, .load false 1 (.t 17), [], some (16, true)⟩,
    ⟨some 19, .fad 1 (.t 3), [], some (16, true)⟩,
    ⟨some 20, .load false 1 (.t 19), [], some (16, true)⟩,
    ⟨some 21, .bin .lss (.t 18) (.t 20), [], some (16, true)⟩,
    ⟨some 22, .pick (.t 16) (.t 21) (.k (.one (.iv (.bool false)))), [], some (10, false)⟩,
    ⟨some 23, .pick (.t 10) (.k (.one (.iv (.bool true)))) (.t 22), [], none⟩,
    ⟨some 4, .mov none (.t 23), [], none⟩])
  (.ret))
def v20 : VFn := ⟨2, 24, [.t 4], b20⟩

theorem c20 : chkFn Try.prog 20 v20 = true := by kernel_rfl

/- scholia/dots.Has -/
def b21 : VCode := .seq (.region false [⟨some 2, .box (.t 0), [], none⟩,
    ⟨some 3, .box (.t 1), [], none⟩,
    ⟨some 4, .mov none (.k (.one (.iv (.bool false)))), [], none⟩])
  (.seq (.region true [⟨some 5, .load true 2 (.t 3), [], none⟩,
    ⟨some 6, .call 18 [(false, .t 5)], [0], none⟩,
    ⟨some 7, .mov none (.t 6), [1], none⟩,
    ⟨some 8, .fad 1 (.t 3), [2], some (7, true)⟩,
    ⟨some 9, .load false 1 (.t 8), [3], some (7, true)⟩,
    ⟨some 10, .fad 0 (.t 3), [2], some (7, true)⟩,
    ⟨some 11, .load false 1 (.t 10), [5], some (7, true)⟩,
    ⟨some 12, .ixA 64 1 (.t 2) (.t 11), [6], some (7, true)⟩,
    ⟨some 13, .load false 1 (.t 12), [7], some (7, true)⟩,
    ⟨some 14, .bin .leq (.t 9) (.t 13), [8, 4], some (7, true)⟩,
    ⟨some 15, .pick (.t 7) (.t 14) (.k (.one (.iv (.bool false)))), [9], none⟩,
    ⟨some 4, .mov none (.t 15), [10], none⟩])
  (.ret))
def v21 : VFn := ⟨2, 16, [.t 4], b21⟩

theorem c21 : chkFn Try.prog 21 v21 = true := by kernel_rfl

/- scholia/scholiaref08.Has -/
def b22 : VCode := .seq (.region false [⟨some 2, .box (.t 0), [], none⟩,
    ⟨some 3, .box (.t 1), [], none⟩,
    ⟨some 4, .mov none (.k (.one (.iv (.bool false)))), [], none⟩])
  (.seq (.region true [⟨some 5, .load true 2 (.t 3), [], none⟩,
    ⟨some 6, .call 19 [(false, .t 5)], [0], none⟩,
    ⟨some 7, .mov none (.t 6), [1], none⟩,
    ⟨some 8, .fad 0 (.t 3), [2], some (7, true)⟩,
    ⟨some 9, .load false 1 (.t 8), [3], some (7, true)⟩,
    ⟨some 10, .ixA 64 1 (.t 2) (.t 9), [4], some (7, true)⟩,
    ⟨some 11, .load false 1 (.t 10), [5], some (7, true)⟩,
    ⟨some 12, .fad 1 (.t 3), [2], some (7, true)⟩,
    ⟨some 13, .load false 1 (.t 12), [7], some (7, true)⟩,
    ⟨some 14, .bin .geq (.t 11) (.t 13), [8, 6], some (7, true)⟩,
    ⟨some 15, .pick (.t 7) (.t 14) (.k (.one (.iv (.bool false)))), [9], none⟩,
    ⟨some 4, .mov none (.t 15), [10], none⟩])
  (.ret))
def v22 : VFn := ⟨2, 16, [.t 4], b22⟩

theorem c22 : chkFn Try.prog 22 v22 = true := by kernel_rfl

/- scholia/scholialaw08.awake -/
def b25 : VCode := .seq (.region false [⟨some 0, .mov none (.k (.one (.iv (.bool false)))), [], none⟩])
  (.seq (.region false [⟨some 2, .build [.iv (.int .i64 0), .iv (.int .i64 0), .iv (.int .i64 0), .iv (.int .i64 0), .iv (.int .i64 0), .iv (.int .i64 0), .iv (.int .i64 0), .iv (.int .i64 0), .iv (.int .i64 0), .iv (.int .i64 0), .iv (.int .i64 0), .iv (.int .i64 0), .iv (.int .i64 0), .iv (.int .i64 0), .iv (.int .i64 0), .iv (.int .i64 0), .iv (.int .i64 0), .iv (.int .i64 0), .iv (.int .i64 0), .iv (.int .i64 0), .iv (.int .i64 0), .iv (.int .i64 0), .iv (.int .i64 0), .iv (.int .i64 0), .iv (.int .i64 0), .iv (.int .i64 0), .iv (.int .i64 0), .iv (.int .i64 0), .iv (.int .i64 0), .iv (.int .i64 0), .iv (.int .i64 0), .iv (.int .i64 0), .iv (.int .i64 0), .iv (.int .i64 0), .iv (.int .i64 0), .iv (.int .i64 0), .iv (.int .i64 0), .iv (.int .i64 0), .iv (.int .i64 0), .iv (.int .i64 0), .iv (.int .i64 0), .iv (.int .i64 0), .iv (.int .i64 0), .iv (.int .i64 0), .iv (.int .i64 0), .iv (.int .i64 0), .iv (.int .i64 0), .iv (.int .i64 0), .iv (.int .i64 0), .iv (.int .i64 0), .iv (.int .i64 0), .iv (.int .i64 0), .iv (.int .i64 0), .iv (.int .i64 0), .iv (.int .i64 0), .iv (.int .i64 0), .iv (.int .i64 0), .iv (.int .i64 0), .iv (.int .i64 0), .iv (.int .i64 0), .iv (.int .i64 0), .iv (.int .i64 0), .iv (.int .i64 0), .iv (.int .i64 0)] [(0, 1, .k (.one (.iv (.int .i64 2))))], [], none⟩,
    ⟨some 3, .build [.iv (.int .i64 0), .iv (.int .i64 0)] [(0, 1, .k (.one (.iv (.int .i64 0)))), (1, 1, .k (.one (.iv (.int .i64 4))))], [], none⟩,
    ⟨some 4, .build [.iv (.int .i64 0), .iv (.int .i64 0)] [(0, 1, .k (.one (.iv (.int .i64 0)))), (1, 1, .k (.one (.iv (.int .i64 3))))], [], none⟩,
    ⟨some 5, .build [.iv (.int .i64 0), .iv (.int .i64 0)] [(0, 1, .k (.one (.iv (.int .i64 0)))), (1, 1, .k (.one (.iv (.int .i64 6))))], [], none⟩,
    ⟨some 6, .mks false 2 [.t 3, .t 4, .t 5], [], none⟩,
    ⟨some 7, .build [.iv (.int .i64 0), .iv (.int .i64 0), .iv (.int .i64 0), .iv (.int .i64 0), .iv (.int .i64 0), .iv (.int .i64 0), .iv (.int .i64 0), .iv (.int .i64 0), .iv (.int .i64 0), .iv (.int .i64 0), .iv (.int .i64 0), .iv (.int .i64 0), .iv (.int .i64 0), .iv (.int .i64 0), .iv (.int .i64 0), .iv (.int .i64 0), .iv (.int .i64 0), .iv (.int .i64 0), .iv (.int .i64 0), .iv (.int .i64 0), .iv (.int .i64 0), .iv (.int .i64 0), .iv (.int .i64 0), .iv (.int .i64 0), .iv (.int .i64 0), .iv (.int .i64 0), .iv (.int .i64 0), .iv (.int .i64 0), .iv (.int .i64 0), .iv (.int .i64 0), .iv (.int .i64 0), .iv (.int .i64 0), .iv (.int .i64 0), .iv (.int .i64 0), .iv (.int .i64 0), .iv (.int .i64 0), .iv (.int .i64 0), .iv (.int .i64 0), .iv (.int .i64 0), .iv (.int .i64 0), .iv (.int .i64 0), .iv (.int .i64 0), .iv (.int .i64 0), .iv (.int .i64 0), .iv (.int .i64 0), .iv (.int .i64 0), .iv (.int .i64 0), .iv (.int .i64 0), .iv (.int .i64 0), .iv (.int .i64 0), .iv (.int .i64 0), .iv (.int .i64 0), .iv (.int .i64 0), .iv (.int .i64 0), .iv (.int .i64 0), .iv (.int .i64 0), .iv (.int .i64 0), .iv (.int .i64 0), .iv (.int .i64 0), .iv (.int .i64 0), .iv (.int .i64 0), .iv (.int .i64 0), .iv (.int .i64 0), .iv (.int .i64 0), .iv (.sl true 0 [])] [(0, 64, .t 2), (64, 1, .t 6)], [], none⟩,
    ⟨some 8, .call 34 [(false, .t 7)], [], none⟩,
    ⟨some 1, .new [.iv (.arr 64 (List.replicate 64 (.int .i64 0))), .iv (.sl true 0 [])], [], none⟩,
    ⟨none, .store 65 (.t 1) (.t 8), [], none⟩])
  (.seq (.region false [⟨some 9, .fad 0 (.t 1), [], none⟩,
    ⟨some 10, .ixA 64 1 (.t 9) (.k (.one (.iv (.int .i64 0)))), [], none⟩,
    ⟨some 11, .load false 1 (.t 10), [], none⟩,
    ⟨some 12, .bin .eql (.t 11) (.k (.one (.iv (.int .i64 4)))), [], none⟩,
    ⟨some 13, .mov none (.t 12), [], none⟩,
    ⟨some 14, .fad 64 (.t 1), [], some (13, true)⟩,
    ⟨some 15, .load false 1 (.t 14), [], some (13, true)⟩,
    ⟨some 16, .blt .len [.t 15], [], some (13, true)⟩,
    ⟨some 17, .bin .eql (.t 16) (.k (.one (.iv (.int .i64 1)))), [], some (13, true)⟩,
    ⟨some 18, .pick (.t 13) (.t 17) (.k (.one (.iv (.bool false)))), [], none⟩,
    ⟨some 19, .mov none (.t 18), [], none⟩,
    ⟨some 20, .fad 64 (.t 1), [], some (19, true)⟩,
    ⟨some 21, .load false 1 (.t 20), [], some (19, true)⟩,
    ⟨some 22, .ixS 2 (.t 21) (.k (.one (.iv (.int .i64 0)))), [], some (19, true)⟩,
    ⟨some 23, .fad 1 (.t 22), [], some (19, true)⟩,
    ⟨some 24, .load false 1 (.t 23), [], some (19, true)⟩,
    ⟨some 25, .bin .eql (.t 24) (.k (.one (.iv (.int .i64 6)))), [], some (19, true)⟩,
    ⟨some 26, .pick (.t 19) (.t 25) (.k (.one (.iv (.bool false)))), [], none⟩,
    ⟨some 0, .mov none (.t 26), [], none⟩])
  (.ret)))
def v25 : VFn := ⟨0, 27, [.t 0], b25⟩

theorem c25 : chkFn Try.prog 25 v25 = true := by kernel_rfl

/- scholia/dots.Join -/
def b26 : VCode := .seq (.region false [⟨some 2, .box (.t 0), [], none⟩,
    ⟨some 3, .box (.t 1), [], none⟩,
    ⟨some 4, .new [.iv (.arr 64 (List.replicate 64 (.int .i64 0)))], [], none⟩])
  (.seq (.region false [⟨some 5, .load true 64 (.t 2), [], none⟩,
    ⟨some 6, .load true 64 (.t 3), [], none⟩,
    ⟨some 7, .call 78 [(false, .t 5), (false, .t 6), (false, .k (.one (.iv (.fn 79))))], [], none⟩,
    ⟨none, .store 64 (.t 4) (.t 7), [], none⟩])
  (.ret))
def v26 : VFn := ⟨2, 8, [.c 4 true 64], b26⟩

theorem c26 : chkFn Try.prog 26 v26 = true := by kernel_rfl

/- scholia/scholiaref08.Join -/
def l29_0 : VCode := .seq (.region false [⟨some 9, .bin .lss (.t 8) (.k (.one (.iv (.int .i64 64)))), [], none⟩])
  (.seq (.cond (.t 9) (.skip) (.exit 0))
  (.seq (.block 1 (.seq (.region false [⟨some 10, .mov none (.t 8), [], none⟩,
    ⟨some 11, .ixV 64 (.t 7) (.t 8), [], none⟩,
    ⟨some 5, .mov none (.t 10), [], none⟩,
    ⟨some 6, .mov none (.t 11), [], none⟩])
  (.seq (.region false [⟨some 12, .mov none (.t 6), [], none⟩,
    ⟨some 13, .mov none (.t 5), [], none⟩,
    ⟨some 14, .ixA 64 1 (.t 2) (.t 13), [], none⟩,
    ⟨some 15, .load false 1 (.t 14), [], none⟩,
    ⟨some 16, .bin .gtr (.t 12) (.t 15), [], none⟩])
  (.cond (.t 16) (.region false [⟨some 17, .mov none (.t 5), [], none⟩,
    ⟨some 18, .mov none (.t 6), [], none⟩,
    ⟨some 19, .ixA 64 1 (.t 2) (.t 17), [], none⟩,
    ⟨none, .store 1 (.t 19) (.t 18), [], none⟩]) (.skip)))))
  (.region false [⟨some 20, .bin .add (.t 8) (.k (.one (.iv (.int .i64 1)))), [], none⟩,
    ⟨some 8, .mov none (.t 20), [], none⟩])))
def b29 : VCode := .seq (.region false [⟨some 2, .box (.t 0), [], none⟩,
    ⟨some 3, .box (.t 1), [], none⟩,
    ⟨some 4, .new [.iv (.arr 64 (List.replicate 64 (.int .i64 0)))], [], none⟩])
  (.seq (.seq (.region false [⟨some 7, .load true 64 (.t 3), [], none⟩,
    ⟨some 8, .mov none (.k (.one (.iv (.int .i64 0)))), [], none⟩])
  (.block 0 (.loop false [2, 4, 7, 8] l29_0)))
  (.seq (.region false [⟨some 21, .load true 64 (.t 2), [], none⟩,
    ⟨none, .store 64 (.t 4) (.t 21), [], none⟩])
  (.ret)))
def v29 : VFn := ⟨2, 22, [.c 4 true 64], b29⟩

theorem c29 : chkFn Try.prog 29 v29 = true := by kernel_rfl

/- scholia/dots.Tidy -/
def l34_0 : VCode := .seq (.region false [⟨some 13, .bin .lss (.t 12) (.k (.one (.iv (.int .i64 64)))), [], none⟩])
  (.seq (.cond (.t 13) (.skip) (.exit 0))
  (.seq (.block 1 (.seq (.region false [⟨some 14, .mov none (.t 12), [], none⟩,
    ⟨some 15, .ixV 64 (.t 11) (.t 12), [], none⟩,
    ⟨some 4, .mov none (.t 14), [], none⟩,
    ⟨some 5, .mov none (.t 15), [], none⟩])
  (.region false [⟨some 16, .mov none (.t 4), [], none⟩,
    ⟨some 17, .mov none (.t 5), [], none⟩,
    ⟨some 18, .blt .max [.t 17, .k (.one (.iv (.int .i64 0)))], [], none⟩,
    ⟨some 19, .blt .min [.t 18, .k (.one (.iv (.int .i64 1073741824)))], [], none⟩,
    ⟨some 20, .fad 0 (.t 3), [], none⟩,
    ⟨some 21, .ixA 64 1 (.t 20) (.t 16), [], none⟩,
    ⟨none, .store 1 (.t 21) (.t 19), [], none⟩])))
  (.region false [⟨some 22, .bin .add (.t 12) (.k (.one (.iv (.int .i64 1)))), [], none⟩,
    ⟨some 12, .mov none (.t 22), [], none⟩])))
def l34_1 : VCode := .seq (.region false [⟨some 32, .bin .lss (.t 31) (.t 30), [], none⟩])
  (.seq (.cond (.t 32) (.skip) (.exit 2))
  (.seq (.block 3 (.seq (.region false [⟨some 33, .ixS 2 (.t 29) (.t 31), [], none⟩,
    ⟨some 34, .load true 2 (.t 33), [], none⟩,
    ⟨some 8, .new [.iv (.int .i64 0), .iv (.int .i64 0)], [], none⟩,
    ⟨none, .store 2 (.t 8) (.t 34), [], none⟩])
  (.seq (.region false [⟨some 35, .fad 0 (.t 8), [], none⟩,
    ⟨some 36, .load false 1 (.t 35), [], none⟩,
    ⟨some 37, .fad 0 (.t 3), [], none⟩,
    ⟨some 38, .ixA 64 1 (.t 37) (.t 36), [], none⟩,
    ⟨some 39, .load false 1 (.t 38), [], none⟩,
    ⟨some 9, .mov none (.t 39), [], none⟩])
  (.block 4 (.seq (.region false [⟨some 41, .fad 1 (.t 8), [], none⟩,
    ⟨some 42, .load false 1 (.t 41), [], none⟩,
    ⟨some 43, .mov none (.t 9), [], none⟩,
    ⟨some 44, .bin .add (.t 43) (.k (.one (.iv (.int .i64 1)))), [], none⟩,
    ⟨some 45, .bin .eql (.t 42) (.t 44), [], none⟩,
    ⟨some 40, .mov none (.t 45), [], none⟩])
  (.cond (.t 40) (.region false [⟨some 46, .fad 0 (.t 8), [], none⟩,
    ⟨some 47, .load false 1 (.t 46), [], none⟩,
    ⟨some 48, .fad 1 (.t 8), [], none⟩,
    ⟨some 49, .load false 1 (.t 48), [], none⟩,
    ⟨some 50, .fad 0 (.t 3), [], none⟩,
    ⟨some 51, .ixA 64 1 (.t 50) (.t 47), [], none⟩,
    ⟨none, .store 1 (.t 51) (.t 49), [], none⟩]) (.seq (.region true [⟨some 53, .fad 1 (.t 8), [], none⟩,
    ⟨some 54, .load false 1 (.t 53), [0], none⟩,
    ⟨some 55, .mov none (.t 9), [], none⟩,
    ⟨some 56, .bin .add (.t 55) (.k (.one (.iv (.int .i64 1)))), [2], none⟩,
    ⟨some 57, .bin .gtr (.t 54) (.t 56), [3, 1], none⟩,
    ⟨some 58, .mov none (.t 57), [4], none⟩,
    ⟨some 59, .fad 64 (.t 3), [5], some (58, true)⟩,
    ⟨some 60, .load false 1 (.t 59), [6], some (58, true)⟩,
    ⟨some 61, .blt .len [.t 60], [7], some (58, true)⟩,
    ⟨some 62, .bin .eql (.t 61) (.k (.one (.iv (.int .i64 0)))), [8], some (58, true)⟩,
    ⟨some 63, .mov none (.t 62), [9], some (58, true)⟩,
    ⟨some 64, .fad 64 (.t 3), [10], some (63, false)⟩,
    ⟨some 65, .load false 1 (.t 64), [11], some (63, false)⟩,
    ⟨some 66, .fad 64 (.t 3), [10], some (63, false)⟩,
    ⟨some 67, .load false 1 (.t 66), [13], some (63, false)⟩,
    ⟨some 68, .blt .len [.t 67], [14], some (63, false)⟩,
    ⟨some 69, .bin .sub (.t 68) (.k (.one (.iv (.int .i64 1)))), [15], some (63, false)⟩,
    ⟨some 70, .ixS 2 (.t 65) (.t 69), [16, 12], some (63, false)⟩,
    ⟨some 71, .load true 2 (.t 70), [17], some (63, false)⟩,
    ⟨some 72, .load true 2 (.t 8), [10], some (63, false)⟩,
    ⟨some 73, .eqa .neq ([.int] ++ [.int]) (.t 71) (.t 72), [19, 18], some (63, false)⟩,
    ⟨some 74, .pick (.t 63) (.k (.one (.iv (.bool true)))) (.t 73), [20], some (58, true)⟩,
    ⟨some 75, .pick (.t 58) (.t 74) (.k (.one (.iv (.bool false)))), [21], none⟩,
    ⟨some 52, .mov none (.t 75), [22], none⟩])
  (.cond (.t 52) (.region false [⟨some 76, .fad 64 (.t 3), [], none⟩,
    ⟨some 77, .load false 1 (.t 76), [], none⟩,
    ⟨some 78, .load true 2 (.t 8), [], none⟩,
    ⟨some 79, .mks false 2 [.t 78], [], none⟩,
    ⟨some 80, .blt (.append 2 16) [.t 77, .t 79], [], none⟩,
    ⟨some 81, .fad 64 (.t 3), [], none⟩,
    ⟨none, .store 1 (.t 81) (.t 80), [], none⟩]) (.skip)))))))))
  (.region false [⟨some 82, .bin .add (.t 31) (.k (.one (.iv (.int .i64 1)))), [], none⟩,
    ⟨some 31, .mov none (.t 82), [], none⟩])))
def b34 : VCode := .seq (.region false [⟨some 1, .box (.t 0), [], none⟩,
    ⟨some 2, .new [.iv (.arr 64 (List.replicate 64 (.int .i64 0))), .iv (.sl true 0 [])], [], none⟩])
  (.seq (.region false [⟨some 3, .new [.iv (.arr 64 (List.replicate 64 (.int .i64 0))), .fresh 2], [], none⟩])
  (.seq (.seq (.region false [⟨some 10, .fad 0 (.t 1), [], none⟩,
    ⟨some 11, .load true 64 (.t 10), [], none⟩,
    ⟨some 12, .mov none (.k (.one (.iv (.int .i64 0)))), [], none⟩])
  (.block 0 (.loop false [1, 2, 3, 11, 12] l34_0)))
  (.seq (.region false [⟨some 23, .fad 64 (.t 1), [], none⟩,
    ⟨some 24, .load false 1 (.t 23), [], none⟩,
    ⟨some 25, .call 83 [(false, .t 24)], [], none⟩,
    ⟨some 26, .call 82 [(true, .t 25), (false, .k (.one (.iv (.fn 84))))], [], none⟩,
    ⟨some 6, .mov none (.t 26), [], none⟩])
  (.seq (.region false [⟨some 27, .mov none (.t 6), [], none⟩,
    ⟨some 28, .call 85 [(true, .t 27), (false, .k (.one (.iv (.fn 17))))], [], none⟩])
  (.seq (.seq (.region false [⟨some 29, .mov none (.t 6), [], none⟩,
    ⟨some 30, .blt .len [.t 29], [], none⟩,
    ⟨some 31, .mov none (.k (.one (.iv (.int .i64 0)))), [], none⟩])
  (.block 2 (.loop false [2, 3, 29, 30, 31] l34_1)))
  (.seq (.region false [⟨some 83, .load true 65 (.t 3), [], none⟩,
    ⟨none, .store 65 (.t 2) (.t 83), [], none⟩])
  (.ret)))))))
def v34 : VFn := ⟨1, 84, [.c 2 true 65], b34⟩

theorem c34 : chkFn Try.prog 34 v34 = true := by kernel_rfl

/- scholia/scholiaref08.Tidy -/
def l35_0 : VCode := .seq (.region false [⟨some 18, .bin .lss (.t 17) (.k (.one (.iv (.int .i64 64)))), [], none⟩])
  (.seq (.cond (.t 18) (.skip) (.exit 0))
  (.seq (.block 1 (.seq (.region false [⟨some 19, .mov none (.t 17), [], none⟩,
    ⟨some 20, .ixV 64 (.t 16) (.t 17), [], none⟩,
    ⟨some 4, .mov none (.t 19), [], none⟩,
    ⟨some 5, .mov none (.t 20), [], none⟩])
  (.region false [⟨some 21, .mov none (.t 4), [], none⟩,
    ⟨some 22, .mov none (.t 5), [], none⟩,
    ⟨some 23, .blt .max [.t 22, .k (.one (.iv (.int .i64 0)))], [], none⟩,
    ⟨some 24, .blt .min [.t 23, .k (.one (.iv (.int .i64 1073741824)))], [], none⟩,
    ⟨some 25, .fad 0 (.t 3), [], none⟩,
    ⟨some 26, .ixA 64 1 (.t 25) (.t 21), [], none⟩,
    ⟨none, .store 1 (.t 26) (.t 24), [], none⟩])))
  (.region false [⟨some 27, .bin .add (.t 17) (.k (.one (.iv (.int .i64 1)))), [], none⟩,
    ⟨some 17, .mov none (.t 27), [], none⟩])))
def l35_2 : VCode := .seq (.region false [⟨some 37, .bin .lss (.t 36) (.t 35), [], none⟩])
  (.seq (.cond (.t 37) (.skip) (.exit 4))
  (.seq (.block 5 (.seq (.region false [⟨some 38, .ixS 2 (.t 34) (.t 36), [], none⟩,
    ⟨some 39, .load true 2 (.t 38), [], none⟩,
    ⟨some 7, .new [.iv (.int .i64 0), .iv (.int .i64 0)], [], none⟩,
    ⟨none, .store 2 (.t 7) (.t 39), [], none⟩])
  (.seq (.region true [⟨some 40, .load true 2 (.t 7), [], none⟩,
    ⟨some 41, .call 19 [(false, .t 40)], [0], none⟩,
    ⟨some 42, .mov none (.t 41), [1], none⟩,
    ⟨some 43, .fad 1 (.t 7), [2], some (42, true)⟩,
    ⟨some 44, .load false 1 (.t 43), [3], some (42, true)⟩,
    ⟨some 45, .fad 0 (.t 7), [2], some (42, true)⟩,
    ⟨some 46, .load false 1 (.t 45), [5], some (42, true)⟩,
    ⟨some 47, .fad 0 (.t 3), [2], some (42, true)⟩,
    ⟨some 48, .ixA 64 1 (.t 47) (.t 46), [7, 6], some (42, true)⟩,
    ⟨some 49, .load false 1 (.t 48), [8], some (42, true)⟩,
    ⟨some 50, .bin .add (.t 49) (.k (.one (.iv (.int .i64 1)))), [9], some (42, true)⟩,
    ⟨some 51, .bin .eql (.t 44) (.t 50), [10, 4], some (42, true)⟩,
    ⟨some 52, .pick (.t 42) (.t 51) (.k (.one (.iv (.bool false)))), [11], none⟩])
  (.cond (.t 52) (.region false [⟨some 53, .fad 0 (.t 7), [], none⟩,
    ⟨some 54, .load false 1 (.t 53), [], none⟩,
    ⟨some 55, .fad 1 (.t 7), [], none⟩,
    ⟨some 56, .load false 1 (.t 55), [], none⟩,
    ⟨some 57, .fad 0 (.t 3), [], none⟩,
    ⟨some 58, .ixA 64 1 (.t 57) (.t 54), [], none⟩,
    ⟨none, .store 1 (.t 58) (.t 56), [], none⟩]) (.skip)))))
  (.region false [⟨some 59, .bin .add (.t 36) (.k (.one (.iv (.int .i64 1)))), [], none⟩,
    ⟨some 36, .mov none (.t 59), [], none⟩])))
def l35_1 : VCode := .seq (.region false [⟨some 32, .bin .lss (.t 31) (.t 30), [], none⟩])
  (.seq (.cond (.t 32) (.skip) (.exit 2))
  (.seq (.block 3 (.seq (.region false [⟨some 33, .fad 64 (.t 1), [], none⟩,
    ⟨some 34, .load false 1 (.t 33), [], none⟩,
    ⟨some 35, .blt .len [.t 34], [], none⟩,
    ⟨some 36, .mov none (.k (.one (.iv (.int .i64 0)))), [], none⟩])
  (.block 4 (.loop false [1, 2, 3, 30, 31, 34, 35, 36] l35_2))))
  (.region false [⟨some 60, .bin .add (.t 31) (.k (.one (.iv (.int .i64 1)))), [], none⟩,
    ⟨some 31, .mov none (.t 60), [], none⟩])))
def l35_4 : VCode := .seq (.region false [⟨some 80, .bin .lss (.t 79) (.t 78), [], none⟩])
  (.seq (.cond (.t 80) (.skip) (.exit 8))
  (.seq (.block 9 (.seq (.region false [⟨some 81, .mov none (.t 79), [], none⟩,
    ⟨some 82, .ixS 2 (.t 77) (.t 79), [], none⟩,
    ⟨some 83, .load true 2 (.t 82), [], none⟩,
    ⟨some 12, .new [.iv (.int .i64 0), .iv (.int .i64 0)], [], none⟩,
    ⟨some 11, .mov none (.t 81), [], none⟩,
    ⟨none, .store 2 (.t 12) (.t 83), [], none⟩])
  (.seq (.region false [⟨some 84, .load true 2 (.t 12), [], none⟩,
    ⟨some 85, .load true 2 (.t 9), [], none⟩,
    ⟨some 86, .call 20 [(false, .t 84), (false, .t 85)], [], none⟩])
  (.cond (.t 86) (.region false [⟨some 87, .mov none (.t 11), [], none⟩,
    ⟨some 88, .bin .add (.t 87) (.k (.one (.iv (.int .i64 1)))), [], none⟩,
    ⟨some 10, .mov none (.t 88), [], none⟩]) (.skip)))))
  (.region false [⟨some 89, .bin .add (.t 79) (.k (.one (.iv (.int .i64 1)))), [], none⟩,
    ⟨some 79, .mov none (.t 89), [], none⟩])))
def l35_3 : VCode := .seq (.region false [⟨some 65, .bin .lss (.t 64) (.t 63), [], none⟩])
  (.seq (.cond (.t 65) (.skip) (.exit 6))
  (.seq (.block 7 (.seq (.region false [⟨some 66, .ixS 2 (.t 62) (.t 64), [], none⟩,
    ⟨some 67, .load true 2 (.t 66), [], none⟩,
    ⟨some 9, .new [.iv (.int .i64 0), .iv (.int .i64 0)], [], none⟩,
    ⟨none, .store 2 (.t 9) (.t 67), [], none⟩])
  (.seq (.seq (.region false [⟨some 68, .load true 2 (.t 9), [], none⟩,
    ⟨some 69, .call 19 [(false, .t 68)], [], none⟩,
    ⟨some 70, .un .not (.t 69), [], none⟩,
    ⟨some 71, .mov none (.t 70), [], none⟩,
    ⟨some 72, .load true 65 (.t 3), [], some (71, false)⟩,
    ⟨some 73, .load true 2 (.t 9), [], some (71, false)⟩,
    ⟨some 74, .call 38 [(false, .t 72), (false, .t 73)], [], some (71, false)⟩,
    ⟨some 75, .pick (.t 71) (.k (.one (.iv (.bool true)))) (.t 74), [], none⟩])
  (.cond (.t 75) (.exit 7) (.skip)))
  (.seq (.region false [⟨some 10, .mov none (.k (.one (.iv (.int .i64 0)))), [], none⟩])
  (.seq (.seq (.region false [⟨some 76, .fad 64 (.t 3), [], none⟩,
    ⟨some 77, .load false 1 (.t 76), [], none⟩,
    ⟨some 78, .blt .len [.t 77], [], none⟩,
    ⟨some 79, .mov none (.k (.one (.iv (.int .i64 0)))), [], none⟩])
  (.block 8 (.loop false [2, 3, 9, 10, 62, 63, 64, 77, 78, 79] l35_4)))
  (.seq (.region false [⟨some 13, .mov (some 2) (.k (.one (.iv (.sl true 0 [])))), [], none⟩])
  (.seq (.region false [⟨some 90, .mov none (.t 13), [], none⟩,
    ⟨some 91, .fad 64 (.t 3), [], none⟩,
    ⟨some 92, .load false 1 (.t 91), [], none⟩,
    ⟨some 93, .mov none (.t 10), [], none⟩,
    ⟨some 94, .slS 2 (.t 92) none (some (.t 93)) none, [], none⟩,
    ⟨some 95, .blt (.append 2 16) [.t 90, .t 94], [], none⟩,
    ⟨some 13, .mov none (.t 95), [], none⟩])
  (.seq (.region false [⟨some 96, .mov none (.t 13), [], none⟩,
    ⟨some 97, .load true 2 (.t 9), [], none⟩,
    ⟨some 98, .mks false 2 [.t 97], [], none⟩,
    ⟨some 99, .blt (.append 2 16) [.t 96, .t 98], [], none⟩,
    ⟨some 13, .mov none (.t 99), [], none⟩])
  (.region false [⟨some 100, .mov none (.t 13), [], none⟩,
    ⟨some 101, .fad 64 (.t 3), [], none⟩,
    ⟨some 102, .load false 1 (.t 101), [], none⟩,
    ⟨some 103, .mov none (.t 10), [], none⟩,
    ⟨some 104, .slS 2 (.t 102) (some (.t 103)) none none, [], none⟩,
    ⟨some 105, .blt (.append 2 16) [.t 100, .t 104], [], none⟩,
    ⟨some 106, .fad 64 (.t 3), [], none⟩,
    ⟨none, .store 1 (.t 106) (.t 105), [], none⟩])))))))))
  (.region false [⟨some 107, .bin .add (.t 64) (.k (.one (.iv (.int .i64 1)))), [], none⟩,
    ⟨some 64, .mov none (.t 107), [], none⟩])))
def b35 : VCode := .seq (.region false [⟨some 1, .box (.t 0), [], none⟩,
    ⟨some 2, .new [.iv (.arr 64 (List.replicate 64 (.int .i64 0))), .iv (.sl true 0 [])], [], none⟩])
  (.seq (.region false [⟨some 14, .build [.iv (.arr 64 (List.replicate 64 (.int .i64 0))), .fresh 2] [], [], none⟩,
    ⟨some 3, .new [.iv (.arr 64 (List.replicate 64 (.int .i64 0))), .iv (.sl true 0 [])], [], none⟩,
    ⟨none, .store 65 (.t 3) (.t 14), [], none⟩])
  (.seq (.seq (.region false [⟨some 15, .fad 0 (.t 1), [], none⟩,
    ⟨some 16, .load true 64 (.t 15), [], none⟩,
    ⟨some 17, .mov none (.k (.one (.iv (.int .i64 0)))), [], none⟩])
  (.block 0 (.loop false [1, 2, 3, 16, 17] l35_0)))
  (.seq (.seq (.region false [⟨some 28, .fad 64 (.t 1), [], none⟩,
    ⟨some 29, .load false 1 (.t 28), [], none⟩,
    ⟨some 30, .blt .len [.t 29], [], none⟩,
    ⟨some 31, .mov none (.k (.one (.iv (.int .i64 0)))), [], none⟩])
  (.block 2 (.loop false [1, 2, 3, 30, 31] l35_1)))
  (.seq (.seq (.region false [⟨some 61, .fad 64 (.t 1), [], none⟩,
    ⟨some 62, .load false 1 (.t 61), [], none⟩,
    ⟨some 63, .blt .len [.t 62], [], none⟩,
    ⟨some 64, .mov none (.k (.one (.iv (.int .i64 0)))), [], none⟩])
  (.block 6 (.loop false [2, 3, 62, 63, 64] l35_3)))
  (.seq (.region false [⟨some 108, .load true 65 (.t 3), [], none⟩,
    ⟨none, .store 65 (.t 2) (.t 108), [], none⟩])
  (.ret))))))
def v35 : VFn := ⟨1, 109, [.c 2 true 65], b35⟩

theorem c35 : chkFn Try.prog 35 v35 = true := by kernel_rfl

/- scholia/scholiaref08.Same -/
def l36_0 : VCode := .seq (.region false [⟨some 25, .bin .lss (.t 24) (.t 23), [], none⟩])
  (.seq (.cond (.t 25) (.skip) (.exit 0))
  (.seq (.block 1 (.seq (.region false [⟨some 26, .mov none (.t 24), [], none⟩,
    ⟨some 27, .ixS 2 (.t 22) (.t 24), [], none⟩,
    ⟨some 28, .load true 2 (.t 27), [], none⟩,
    ⟨some 6, .new [.iv (.int .i64 0), .iv (.int .i64 0)], [], none⟩,
    ⟨some 5, .mov none (.t 26), [], none⟩,
    ⟨none, .store 2 (.t 6) (.t 28), [], none⟩])
  (.seq (.region true [⟨some 29, .fad 64 (.t 3), [], none⟩,
    ⟨some 30, .load false 1 (.t 29), [0], none⟩,
    ⟨some 31, .mov none (.t 5), [], none⟩,
    ⟨some 32, .ixS 2 (.t 30) (.t 31), [2, 1], none⟩,
    ⟨some 33, .load true 2 (.t 32), [3], none⟩,
    ⟨some 34, .load true 2 (.t 6), [], none⟩,
    ⟨some 35, .eqa .neq ([.int] ++ [.int]) (.t 33) (.t 34), [5, 4], none⟩])
  (.cond (.t 35) (.seq (.region false [⟨some 4, .mov none (.k (.one (.iv (.bool false)))), [], none⟩])
  (.ret)) (.skip)))))
  (.region false [⟨some 36, .bin .add (.t 24) (.k (.one (.iv (.int .i64 1)))), [], none⟩,
    ⟨some 24, .mov none (.t 36), [], none⟩])))
def b36 : VCode := .seq (.region false [⟨some 2, .box (.t 0), [], none⟩,
    ⟨some 3, .box (.t 1), [], none⟩,
    ⟨some 4, .mov none (.k (.one (.iv (.bool false)))), [], none⟩])
  (.seq (.seq (.region false [⟨some 7, .fad 0 (.t 2), [], none⟩,
    ⟨some 8, .load true 64 (.t 7), [], none⟩,
    ⟨some 9, .fad 0 (.t 3), [], none⟩,
    ⟨some 10, .load true 64 (.t 9), [], none⟩,
    ⟨some 11, .eqa .neq (List.replicate 64 .int) (.t 8) (.t 10), [], none⟩,
    ⟨some 12, .mov none (.t 11), [], none⟩,
    ⟨some 13, .fad 64 (.t 2), [], some (12, false)⟩,
    ⟨some 14, .load false 1 (.t 13), [], some (12, false)⟩,
    ⟨some 15, .blt .len [.t 14], [], some (12, false)⟩,
    ⟨some 16, .fad 64 (.t 3), [], some (12, false)⟩,
    ⟨some 17, .load false 1 (.t 16), [], some (12, false)⟩,
    ⟨some 18, .blt .len [.t 17], [], some (12, false)⟩,
    ⟨some 19, .bin .neq (.t 15) (.t 18), [], some (12, false)⟩,
    ⟨some 20, .pick (.t 12) (.k (.one (.iv (.bool true)))) (.t 19), [], none⟩])
  (.cond (.t 20) (.seq (.region false [⟨some 4, .mov none (.k (.one (.iv (.bool false)))), [], none⟩])
  (.ret)) (.skip)))
  (.seq (.seq (.region false [⟨some 21, .fad 64 (.t 2), [], none⟩,
    ⟨some 22, .load false 1 (.t 21), [], none⟩,
    ⟨some 23, .blt .len [.t 22], [], none⟩,
    ⟨some 24, .mov none (.k (.one (.iv (.int .i64 0)))), [], none⟩])
  (.block 0 (.loop false [3, 22, 23, 24] l36_0)))
  (.seq (.region false [⟨some 4, .mov none (.k (.one (.iv (.bool true)))), [], none⟩])
  (.ret))))
def v36 : VFn := ⟨2, 37, [.t 4], b36⟩

theorem c36 : chkFn Try.prog 36 v36 = true := by kernel_rfl

/- scholia/dots.Knows -/
def b37 : VCode := .seq (.region false [⟨some 2, .box (.t 0), [], none⟩,
    ⟨some 3, .box (.t 1), [], none⟩,
    ⟨some 4, .mov none (.k (.one (.iv (.bool false)))), [], none⟩])
  (.seq (.region false [⟨some 5, .fad 0 (.t 2), [], none⟩,
    ⟨some 6, .load true 64 (.t 5), [], none⟩,
    ⟨some 7, .load true 2 (.t 3), [], none⟩,
    ⟨some 8, .call 21 [(false, .t 6), (false, .t 7)], [], none⟩,
    ⟨some 9, .mov none (.t 8), [], none⟩,
    ⟨some 10, .load true 2 (.t 3), [], some (9, false)⟩,
    ⟨some 11, .call 18 [(false, .t 10)], [], some (9, false)⟩,
    ⟨some 12, .mov none (.t 11), [], some (9, false)⟩,
    ⟨some 13, .fad 64 (.t 2), [], some (12, true)⟩,
    ⟨some 14, .load false 1 (.t 13), [], some (12, true)⟩,
    ⟨some 15, .load true 2 (.t 3), [], some (12, true)⟩,
    ⟨some 16, .call 86 [(false, .t 14), (false, .t 15)], [], some (12, true)⟩,
    ⟨some 17, .pick (.t 12) (.t 16) (.k (.one (.iv (.bool false)))), [], some (9, false)⟩,
    ⟨some 18, .pick (.t 9) (.k (.one (.iv (.bool true)))) (.t 17), [], none⟩,
    ⟨some 4, .mov none (.t 18), [], none⟩])
  (.ret))
def v37 : VFn := ⟨2, 19, [.t 4], b37⟩

theorem c37 : chkFn Try.prog 37 v37 = true := by kernel_rfl

/- scholia/scholiaref08.Knows -/
def l38_0 : VCode := .seq (.region false [⟨some 15, .bin .lss (.t 14) (.t 13), [], none⟩])
  (.seq (.cond (.t 15) (.skip) (.exit 0))
  (.seq (.block 1 (.seq (.region false [⟨some 16, .ixS 2 (.t 12) (.t 14), [], none⟩,
    ⟨some 17, .load true 2 (.t 16), [], none⟩,
    ⟨some 6, .new [.iv (.int .i64 0), .iv (.int .i64 0)], [], none⟩,
    ⟨none, .store 2 (.t 6) (.t 17), [], none⟩])
  (.seq (.region false [⟨some 18, .load true 2 (.t 6), [], none⟩,
    ⟨some 19, .load true 2 (.t 3), [], none⟩,
    ⟨some 20, .eqa .eql ([.int] ++ [.int]) (.t 18) (.t 19), [], none⟩,
    ⟨some 21, .mov none (.t 20), [], none⟩,
    ⟨some 22, .load true 2 (.t 3), [], some (21, true)⟩,
    ⟨some 23, .call 19 [(false, .t 22)], [], some (21, true)⟩,
    ⟨some 24, .pick (.t 21) (.t 23) (.k (.one (.iv (.bool false)))), [], none⟩])
  (.cond (.t 24) (.seq (.region false [⟨some 4, .mov none (.k (.one (.iv (.bool true)))), [], none⟩])
  (.ret)) (.skip)))))
  (.region false [⟨some 25, .bin .add (.t 14) (.k (.one (.iv (.int .i64 1)))), [], none⟩,
    ⟨some 14, .mov none (.t 25), [], none⟩])))
def b38 : VCode := .seq (.region false [⟨some 2, .box (.t 0), [], none⟩,
    ⟨some 3, .box (.t 1), [], none⟩,
    ⟨some 4, .mov none (.k (.one (.iv (.bool false)))), [], none⟩])
  (.seq (.seq (.region false [⟨some 7, .fad 0 (.t 2), [], none⟩,
    ⟨some 8, .load true 64 (.t 7), [], none⟩,
    ⟨some 9, .load true 2 (.t 3), [], none⟩,
    ⟨some 10, .call 22 [(false, .t 8), (false, .t 9)], [], none⟩])
  (.cond (.t 10) (.seq (.region false [⟨some 4, .mov none (.k (.one (.iv (.bool true)))), [], none⟩])
  (.ret)) (.skip)))
  (.seq (.seq (.region false [⟨some 11, .fad 64 (.t 2), [], none⟩,
    ⟨some 12, .load false 1 (.t 11), [], none⟩,
    ⟨some 13, .blt .len [.t 12], [], none⟩,
    ⟨some 14, .mov none (.k (.one (.iv (.int .i64 0)))), [], none⟩])
  (.block 0 (.loop false [3, 12, 13, 14] l38_0)))
  (.seq (.region false [⟨some 4, .mov none (.k (.one (.iv (.bool false)))), [], none⟩])
  (.ret))))
def v38 : VFn := ⟨2, 26, [.t 4], b38⟩

theorem c38 : chkFn Try.prog 38 v38 = true := by kernel_rfl

/- scholia/dots.Whole -/
def b39 : VCode := .seq (.region false [⟨some 1, .box (.t 0), [], none⟩,
    ⟨some 2, .mov none (.k (.one (.iv (.bool false)))), [], none⟩])
  (.seq (.region false [⟨some 3, .load true 65 (.t 1), [], none⟩,
    ⟨some 4, .call 34 [(false, .t 3)], [], none⟩,
    ⟨some 5, .fld false 64 1 (.t 4), [], none⟩,
    ⟨some 6, .blt .len [.t 5], [], none⟩,
    ⟨some 7, .bin .eql (.t 6) (.k (.one (.iv (.int .i64 0)))), [], none⟩,
    ⟨some 2, .mov none (.t 7), [], none⟩])
  (.ret))
def v39 : VFn := ⟨1, 8, [.t 2], b39⟩

theorem c39 : chkFn Try.prog 39 v39 = true := by kernel_rfl

/- scholia/scholiaref08.Both -/
def b40 : VCode := .seq (.region false [⟨some 2, .box (.t 0), [], none⟩,
    ⟨some 3, .box (.t 1), [], none⟩,
    ⟨some 4, .new [.iv (.arr 64 (List.replicate 64 (.int .i64 0))), .iv (.sl true 0 [])], [], none⟩])
  (.seq (.region false [⟨some 5, .mov (some 2) (.k (.one (.iv (.sl true 0 [])))), [], none⟩])
  (.seq (.region false [⟨some 6, .mov none (.t 5), [], none⟩,
    ⟨some 7, .fad 64 (.t 2), [], none⟩,
    ⟨some 8, .load false 1 (.t 7), [], none⟩,
    ⟨some 9, .blt (.append 2 16) [.t 6, .t 8], [], none⟩,
    ⟨some 5, .mov none (.t 9), [], none⟩])
  (.seq (.region false [⟨some 10, .mov none (.t 5), [], none⟩,
    ⟨some 11, .fad 64 (.t 3), [], none⟩,
    ⟨some 12, .load false 1 (.t 11), [], none⟩,
    ⟨some 13, .blt (.append 2 16) [.t 10, .t 12], [], none⟩,
    ⟨some 5, .mov none (.t 13), [], none⟩])
  (.seq (.region true [⟨some 14, .load true 65 (.t 2), [], none⟩,
    ⟨some 15, .call 35 [(false, .t 14)], [0], none⟩,
    ⟨some 16, .fld true 0 64 (.t 15), [1], none⟩,
    ⟨some 17, .load true 65 (.t 3), [], none⟩,
    ⟨some 18, .call 35 [(false, .t 17)], [3, 1], none⟩,
    ⟨some 19, .fld true 0 64 (.t 18), [4], none⟩,
    ⟨some 20, .call 29 [(false, .t 16), (false, .t 19)], [5, 2], none⟩,
    ⟨some 21, .mov none (.t 5), [], none⟩,
    ⟨some 22, .build [.iv (.arr 64 (List.replicate 64 (.int .i64 0))), .iv (.sl true 0 [])] [(0, 64, .t 20), (64, 1, .t 21)], [7, 6], none⟩,
    ⟨none, .store 65 (.t 4) (.t 22), [8], none⟩])
  (.ret)))))
def v40 : VFn := ⟨2, 23, [.c 4 true 65], b40⟩

theorem c40 : chkFn Try.prog 40 v40 = true := by kernel_rfl

/- scholia/dots.Union -/
def b41 : VCode := .seq (.region false [⟨some 2, .box (.t 0), [], none⟩,
    ⟨some 3, .box (.t 1), [], none⟩,
    ⟨some 4, .new [.iv (.arr 64 (List.replicate 64 (.int .i64 0))), .iv (.sl true 0 [])], [], none⟩])
  (.seq (.region true [⟨some 5, .load true 65 (.t 2), [], none⟩,
    ⟨some 6, .call 34 [(false, .t 5)], [0], none⟩,
    ⟨some 7, .load true 65 (.t 3), [], none⟩,
    ⟨some 8, .call 34 [(false, .t 7)], [2, 1], none⟩,
    ⟨none, .store 65 (.t 2) (.t 6), [3], none⟩,
    ⟨none, .store 65 (.t 3) (.t 8), [4], none⟩])
  (.seq (.region true [⟨some 9, .fad 0 (.t 2), [], none⟩,
    ⟨some 10, .load true 64 (.t 9), [0], none⟩,
    ⟨some 11, .fad 0 (.t 3), [], none⟩,
    ⟨some 12, .load true 64 (.t 11), [2], none⟩,
    ⟨some 13, .call 26 [(false, .t 10), (false, .t 12)], [3, 1], none⟩,
    ⟨some 14, .fad 64 (.t 2), [], none⟩,
    ⟨some 15, .load false 1 (.t 14), [5], none⟩,
    ⟨some 16, .fad 64 (.t 3), [], none⟩,
    ⟨some 17, .load false 1 (.t 16), [7], none⟩,
    ⟨some 18, .mks false 1 [.t 15, .t 17], [8, 6], none⟩,
    ⟨some 19, .call 87 [(false, .t 18)], [9, 4], none⟩,
    ⟨some 20, .build [.iv (.arr 64 (List.replicate 64 (.int .i64 0))), .iv (.sl true 0 [])] [(0, 64, .t 13), (64, 1, .t 19)], [10], none⟩,
    ⟨some 21, .call 34 [(false, .t 20)], [11], none⟩,
    ⟨none, .store 65 (.t 4) (.t 21), [12], none⟩])
  (.ret)))
def v41 : VFn := ⟨2, 22, [.c 4 true 65], b41⟩

theorem c41 : chkFn Try.prog 41 v41 = true := by kernel_rfl

/- scholia/dots.Add -/
def b42 : VCode := .seq (.region false [⟨some 2, .box (.t 0), [], none⟩,
    ⟨some 4, .new [.iv (.arr 64 (List.replicate 64 (.int .i64 0))), .iv (.sl true 0 [])], [], none⟩])
  (.seq (.region true [⟨some 5, .fad 0 (.t 2), [], none⟩,
    ⟨some 6, .load true 64 (.t 5), [0], none⟩,
    ⟨some 7, .fad 64 (.t 2), [], none⟩,
    ⟨some 8, .load false 1 (.t 7), [2], none⟩,
    ⟨some 9, .mov none (.t 1), [], none⟩,
    ⟨some 10, .mks false 1 [.t 8, .t 9], [4, 3], none⟩,
    ⟨some 11, .call 87 [(false, .t 10)], [5], none⟩,
    ⟨some 12, .build [.iv (.arr 64 (List.replicate 64 (.int .i64 0))), .iv (.sl true 0 [])] [(0, 64, .t 6), (64, 1, .t 11)], [6, 1], none⟩,
    ⟨some 13, .call 34 [(false, .t 12)], [7], none⟩,
    ⟨none, .store 65 (.t 4) (.t 13), [8], none⟩])
  (.ret))
def v42 : VFn := ⟨2, 14, [.c 4 true 65], b42⟩

theorem c42 : chkFn Try.prog 42 v42 = true := by kernel_rfl

/- scholia/dots.Inside -/
def b43 : VCode := .seq (.region false [⟨some 2, .box (.t 0), [], none⟩,
    ⟨some 3, .box (.t 1), [], none⟩,
    ⟨some 4, .mov none (.k (.one (.iv (.bool false)))), [], none⟩])
  (.seq (.region true [⟨some 6, .load true 65 (.t 2), [], none⟩,
    ⟨some 7, .call 34 [(false, .t 6)], [0], none⟩,
    ⟨some 8, .load true 65 (.t 3), [], none⟩,
    ⟨some 9, .call 34 [(false, .t 8)], [2, 1], none⟩,
    ⟨none, .store 65 (.t 2) (.t 7), [3], none⟩,
    ⟨none, .store 65 (.t 3) (.t 9), [4], none⟩])
  (.seq (.region false [⟨some 10, .load true 65 (.t 2), [], none⟩,
    ⟨some 11, .load true 65 (.t 3), [], none⟩,
    ⟨some 12, .call 41 [(false, .t 10), (false, .t 11)], [], none⟩,
    ⟨some 5, .new [.iv (.arr 64 (List.replicate 64 (.int .i64 0))), .iv (.sl true 0 [])], [], none⟩,
    ⟨none, .store 65 (.t 5) (.t 12), [], none⟩])
  (.seq (.region false [⟨some 13, .fad 0 (.t 5), [], none⟩,
    ⟨some 14, .load true 64 (.t 13), [], none⟩,
    ⟨some 15, .fad 0 (.t 3), [], none⟩,
    ⟨some 16, .load true 64 (.t 15), [], none⟩,
    ⟨some 17, .eqa .eql (List.replicate 64 .int) (.t 14) (.t 16), [], none⟩,
    ⟨some 18, .mov none (.t 17), [], none⟩,
    ⟨some 19, .fad 64 (.t 5), [], some (18, true)⟩,
    ⟨some 20, .load false 1 (.t 19), [], some (18, true)⟩,
    ⟨some 21, .fad 64 (.t 3), [], some (18, true)⟩,
    ⟨some 22, .load false 1 (.t 21), [], some (18, true)⟩,
    ⟨some 23, .call 88 [(false, .t 20), (false, .t 22)], [], some (18, true)⟩,
    ⟨some 24, .pick (.t 18) (.t 23) (.k (.one (.iv (.bool false)))), [], none⟩,
    ⟨some 4, .mov none (.t 24), [], none⟩])
  (.ret))))
def v43 : VFn := ⟨2, 25, [.t 4], b43⟩

theorem c43 : chkFn Try.prog 43 v43 = true := by kernel_rfl

/- cmp.Or[int] -/
def l76_0 : VCode := .seq (.region false [⟨some 9, .bin .lss (.t 8) (.t 7), [], none⟩])
  (.seq (.cond (.t 9) (.skip) (.exit 0))
  (.seq (.block 1 (.seq (.region false [⟨some 10, .ixS 1 (.t 6) (.t 8), [], none⟩,
    ⟨some 11, .load false 1 (.t 10), [], none⟩,
    ⟨some 5, .mov none (.t 11), [], none⟩])
  (.seq (.region false [⟨some 12, .mov none (.t 5), [], none⟩,
    ⟨some 13, .mov none (.t 3), [], none⟩,
    ⟨some 14, .bin .neq (.t 12) (.t 13), [], none⟩])
  (.cond (.t 14) (.seq (.region false [⟨some 15, .mov none (.t 5), [], none⟩,
    ⟨some 2, .mov none (.t 15), [], none⟩])
  (.ret)) (.skip)))))
  (.region false [⟨some 16, .bin .add (.t 8) (.k (.one (.iv (.int .i64 1)))), [], none⟩,
    ⟨some 8, .mov none (.t 16), [], none⟩])))
def b76 : VCode := .seq (.region false [⟨some 2, .mov none (.k (.one (.iv (.int .i64 0)))), [], none⟩])
  (.seq (.region false [⟨some 3, .mov none (.k (.one (.iv (.int .i64 0)))), [], none⟩])
  (.seq (.seq (.region false [⟨some 6, .mov none (.t 0), [], none⟩,
    ⟨some 7, .blt .len [.t 6], [], none⟩,
    ⟨some 8, .mov none (.k (.one (.iv (.int .i64 0)))), [], none⟩])
  (.block 0 (.loop false [3, 6, 7, 8] l76_0)))
  (.seq (.region false [⟨some 17, .mov none (.t 3), [], none⟩,
    ⟨some 2, .mov none (.t 17), [], none⟩])
  (.ret))))
def v76 : VFn := ⟨1, 18, [.t 2], b76⟩

theorem c76 : chkFn Try.prog 76 v76 = true := by kernel_rfl

/- cmp.Compare[int] -/
def b77 : VCode := .seq (.region false [⟨some 4, .mov none (.k (.one (.iv (.int .i64 0)))), [], none⟩])
  (.seq (.region false [⟨some 7, .mov none (.t 0), [], none⟩,
    ⟨some 8, .call 113 [(false, .t 7)], [], none⟩,
    ⟨some 5, .mov none (.t 8), [], none⟩])
  (.seq (.region false [⟨some 9, .mov none (.t 1), [], none⟩,
    ⟨some 10, .call 113 [(false, .t 9)], [], none⟩,
    ⟨some 6, .mov none (.t 10), [], none⟩])
  (.seq (.seq (.region false [⟨some 11, .mov none (.t 5), [], none⟩])
  (.cond (.t 11) (.seq (.seq (.region false [⟨some 12, .mov none (.t 6), [], none⟩])
  (.cond (.t 12) (.seq (.region false [⟨some 4, .mov none (.k (.one (.iv (.int .i64 0)))), [], none⟩])
  (.ret)) (.skip)))
  (.seq (.region false [⟨some 4, .mov none (.k (.one (.iv (.int .i64 (-1))))), [], none⟩])
  (.ret))) (.skip)))
  (.seq (.seq (.region false [⟨some 13, .mov none (.t 6), [], none⟩])
  (.cond (.t 13) (.seq (.region false [⟨some 4, .mov none (.k (.one (.iv (.int .i64 1)))), [], none⟩])
  (.ret)) (.skip)))
  (.seq (.seq (.region false [⟨some 14, .mov none (.t 0), [], none⟩,
    ⟨some 15, .mov none (.t 1), [], none⟩,
    ⟨some 16, .bin .lss (.t 14) (.t 15), [], none⟩])
  (.cond (.t 16) (.seq (.region false [⟨some 4, .mov none (.k (.one (.iv (.int .i64 (-1))))), [], none⟩])
  (.ret)) (.skip)))
  (.seq (.seq (.region false [⟨some 17, .mov none (.t 0), [], none⟩,
    ⟨some 18, .mov none (.t 1), [], none⟩,
    ⟨some 19, .bin .gtr (.t 17) (.t 18), [], none⟩])
  (.cond (.t 19) (.seq (.region false [⟨some 4, .mov none (.k (.one (.iv (.int .i64 1)))), [], none⟩])
  (.ret)) (.skip)))
  (.seq (.region false [⟨some 4, .mov none (.k (.one (.iv (.int .i64 0)))), [], none⟩])
  (.ret))))))))
def v77 : VFn := ⟨2, 20, [.t 4], b77⟩

theorem c77 : chkFn Try.prog 77 v77 = true := by kernel_rfl

/- scholia/dots.each -/
def l78_0 : VCode := .seq (.region false [⟨some 9, .bin .lss (.t 8) (.k (.one (.iv (.int .i64 64)))), [], none⟩])
  (.seq (.cond (.t 9) (.skip) (.exit 0))
  (.seq (.block 1 (.seq (.region false [⟨some 10, .mov none (.t 8), [], none⟩,
    ⟨some 7, .mov none (.t 10), [], none⟩])
  (.region true [⟨some 11, .mov none (.t 7), [], none⟩,
    ⟨some 12, .mov none (.t 2), [], none⟩,
    ⟨some 13, .mov none (.t 7), [], none⟩,
    ⟨some 14, .ixA 64 1 (.t 3) (.t 13), [2], none⟩,
    ⟨some 15, .load false 1 (.t 14), [3], none⟩,
    ⟨some 16, .mov none (.t 7), [], none⟩,
    ⟨some 17, .ixA 64 1 (.t 4) (.t 16), [5], none⟩,
    ⟨some 18, .load false 1 (.t 17), [6], none⟩,
    ⟨some 19, .callv (.t 12) [(false, .t 15), (false, .t 18)], [7, 4, 1], none⟩,
    ⟨some 20, .ixA 64 1 (.t 3) (.t 11), [8, 0], none⟩,
    ⟨none, .store 1 (.t 20) (.t 19), [9], none⟩])))
  (.region false [⟨some 21, .bin .add (.t 8) (.k (.one (.iv (.int .i64 1)))), [], none⟩,
    ⟨some 8, .mov none (.t 21), [], none⟩])))
def b78 : VCode := .seq (.region false [⟨some 3, .box (.t 0), [], none⟩,
    ⟨some 4, .box (.t 1), [], none⟩,
    ⟨some 6, .new [.iv (.arr 64 (List.replicate 64 (.int .i64 0)))], [], none⟩])
  (.seq (.seq (.region false [⟨some 8, .mov none (.k (.one (.iv (.int .i64 0)))), [], none⟩])
  (.block 0 (.loop false [2, 3, 4, 6, 8] l78_0)))
  (.seq (.region false [⟨some 22, .load true 64 (.t 3), [], none⟩,
    ⟨none, .store 64 (.t 6) (.t 22), [], none⟩])
  (.ret)))
def v78 : VFn := ⟨3, 23, [.c 6 true 64], b78⟩

theorem c78 : chkFn Try.prog 78 v78 = true := by kernel_rfl

/- scholia/dots.Join$1 -/
def b79 : VCode := .seq (.region false [⟨some 4, .mov none (.k (.one (.iv (.int .i64 0)))), [], none⟩])
  (.seq (.region false [⟨some 5, .mov none (.t 0), [], none⟩,
    ⟨some 6, .mov none (.t 1), [], none⟩,
    ⟨some 7, .blt .max [.t 5, .t 6], [], none⟩,
    ⟨some 4, .mov none (.t 7), [], none⟩])
  (.ret))
def v79 : VFn := ⟨2, 8, [.t 4], b79⟩

theorem c79 : chkFn Try.prog 79 v79 = true := by kernel_rfl

/- slices.DeleteFunc[[]scholia/api.Dot,scholia/api.Dot] -/
def l82_0 : VCode := .seq (.seq (.region false [⟨some 16, .mov none (.t 6), [], none⟩,
    ⟨some 17, .mov none (.t 0), [], none⟩,
    ⟨some 18, .blt .len [.t 17], [], none⟩,
    ⟨some 19, .bin .lss (.t 16) (.t 18), [], none⟩])
  (.cond (.t 19) (.skip) (.exit 0)))
  (.seq (.block 1 (.seq (.region false [⟨some 22, .mov none (.t 0), [], none⟩,
    ⟨some 23, .mov none (.t 6), [], none⟩,
    ⟨some 24, .ixS 2 (.t 22) (.t 23), [], none⟩,
    ⟨some 25, .load true 2 (.t 24), [], none⟩,
    ⟨some 7, .new [.iv (.int .i64 0), .iv (.int .i64 0)], [], none⟩,
    ⟨none, .store 2 (.t 7) (.t 25), [], none⟩])
  (.seq (.region false [⟨some 26, .mov none (.t 1), [], none⟩,
    ⟨some 27, .load true 2 (.t 7), [], none⟩,
    ⟨some 28, .callv (.t 26) [(false, .t 27)], [], none⟩,
    ⟨some 29, .un .not (.t 28), [], none⟩])
  (.cond (.t 29) (.seq (.region false [⟨some 30, .mov none (.t 0), [], none⟩,
    ⟨some 31, .mov none (.t 5), [], none⟩,
    ⟨some 32, .load true 2 (.t 7), [], none⟩,
    ⟨some 33, .ixS 2 (.t 30) (.t 31), [], none⟩,
    ⟨none, .store 2 (.t 33) (.t 32), [], none⟩])
  (.region false [⟨some 34, .mov none (.t 5), [], none⟩,
    ⟨some 35, .bin .add (.t 34) (.k (.one (.iv (.int .i64 1)))), [], none⟩,
    ⟨some 5, .mov none (.t 35), [], none⟩])) (.skip)))))
  (.region false [⟨some 20, .mov none (.t 6), [], none⟩,
    ⟨some 21, .bin .add (.t 20) (.k (.one (.iv (.int .i64 1)))), [], none⟩,
    ⟨some 6, .mov none (.t 21), [], none⟩]))
def b82 : VCode := .seq (.region false [⟨some 4, .mov none (.k (.one (.iv (.sl true 0 [])))), [], none⟩])
  (.seq (.region false [⟨some 8, .mov none (.t 0), [], none⟩,
    ⟨some 9, .mov none (.t 1), [], none⟩,
    ⟨some 10, .call 116 [(true, .t 8), (false, .t 9)], [], none⟩,
    ⟨some 5, .mov none (.t 10), [], none⟩])
  (.seq (.seq (.region false [⟨some 11, .mov none (.t 5), [], none⟩,
    ⟨some 12, .bin .eql (.t 11) (.k (.one (.iv (.int .i64 (-1))))), [], none⟩])
  (.cond (.t 12) (.seq (.region false [⟨some 13, .mov none (.t 0), [], none⟩,
    ⟨some 4, .mov none (.t 13), [], none⟩])
  (.ret)) (.skip)))
  (.seq (.seq (.region false [⟨some 14, .mov none (.t 5), [], none⟩,
    ⟨some 15, .bin .add (.t 14) (.k (.one (.iv (.int .i64 1)))), [], none⟩,
    ⟨some 6, .mov none (.t 15), [], none⟩])
  (.block 0 (.loop false [0, 1, 5, 6] l82_0)))
  (.seq (.region false [⟨some 36, .mov none (.t 0), [], none⟩,
    ⟨some 37, .mov none (.t 5), [], none⟩,
    ⟨some 38, .slS 2 (.t 36) (some (.t 37)) none none, [], none⟩,
    ⟨none, .blt (.clear [(.int .i64 0), (.int .i64 0)]) [.t 38], [], none⟩])
  (.seq (.region false [⟨some 39, .mov none (.t 0), [], none⟩,
    ⟨some 40, .mov none (.t 5), [], none⟩,
    ⟨some 41, .slS 2 (.t 39) none (some (.t 40)) none, [], none⟩,
    ⟨some 4, .mov none (.t 41), [], none⟩])
  (.ret))))))
def v82 : VFn := ⟨2, 42, [.t 4], b82⟩

theorem c82 : chkFn Try.prog 82 v82 = true := by kernel_rfl

/- scholia/dots.Tidy$1 -/
def b84 : VCode := .seq (.region false [⟨some 1, .box (.t 0), [], none⟩,
    ⟨some 2, .mov none (.k (.one (.iv (.bool false)))), [], none⟩])
  (.seq (.region false [⟨some 3, .load true 2 (.t 1), [], none⟩,
    ⟨some 4, .call 18 [(false, .t 3)], [], none⟩,
    ⟨some 5, .un .not (.t 4), [], none⟩,
    ⟨some 2, .mov none (.t 5), [], none⟩])
  (.ret))
def v84 : VFn := ⟨1, 6, [.t 2], b84⟩

theorem c84 : chkFn Try.prog 84 v84 = true := by kernel_rfl

/- slices.Contains[[]scholia/api.Dot,scholia/api.Dot] -/
def b86 : VCode := .seq (.region false [⟨some 3, .box (.t 1), [], none⟩,
    ⟨some 4, .mov none (.k (.one (.iv (.bool false)))), [], none⟩])
  (.seq (.region false [⟨some 5, .mov none (.t 0), [], none⟩,
    ⟨some 6, .load true 2 (.t 3), [], none⟩,
    ⟨some 7, .call 119 [(false, .t 5), (false, .t 6)], [], none⟩,
    ⟨some 8, .bin .geq (.t 7) (.k (.one (.iv (.int .i64 0)))), [], none⟩,
    ⟨some 4, .mov none (.t 8), [], none⟩])
  (.ret))
def v86 : VFn := ⟨2, 9, [.t 4], b86⟩

theorem c86 : chkFn Try.prog 86 v86 = true := by kernel_rfl

/- slices.Concat[[]scholia/api.Dot,scholia/api.Dot] -/
def l87_0 : VCode := .seq (.region false [⟨some 12, .bin .lss (.t 11) (.t 10), [], none⟩])
  (.seq (.cond (.t 12) (.skip) (.exit 0))
  (.seq (.block 1 (.seq (.region false [⟨some 13, .ixS 1 (.t 9) (.t 11), [], none⟩,
    ⟨some 14, .load false 1 (.t 13), [], none⟩,
    ⟨some 5, .mov none (.t 14), [], none⟩])
  (.seq (.region false [⟨some 15, .mov none (.t 3), [], none⟩,
    ⟨some 16, .mov none (.t 5), [], none⟩,
    ⟨some 17, .blt .len [.t 16], [], none⟩,
    ⟨some 18, .bin .add (.t 15) (.t 17), [], none⟩,
    ⟨some 3, .mov none (.t 18), [], none⟩])
  (.seq (.region false [⟨some 19, .mov none (.t 3), [], none⟩,
    ⟨some 20, .bin .lss (.t 19) (.k (.one (.iv (.int .i64 0)))), [], none⟩])
  (.cond (.t 20) (.bad) (.skip))))))
  (.region false [⟨some 22, .bin .add (.t 11) (.k (.one (.iv (.int .i64 1)))), [], none⟩,
    ⟨some 11, .mov none (.t 22), [], none⟩])))
def l87_1 : VCode := .seq (.region false [⟨some 28, .bin .lss (.t 27) (.t 26), [], none⟩])
  (.seq (.cond (.t 28) (.skip) (.exit 2))
  (.seq (.block 3 (.seq (.region false [⟨some 29, .ixS 1 (.t 25) (.t 27), [], none⟩,
    ⟨some 30, .load false 1 (.t 29), [], none⟩,
    ⟨some 8, .mov none (.t 30), [], none⟩])
  (.region false [⟨some 31, .mov none (.t 6), [], none⟩,
    ⟨some 32, .mov none (.t 8), [], none⟩,
    ⟨some 33, .blt (.append 2 16) [.t 31, .t 32], [], none⟩,
    ⟨some 6, .mov none (.t 33), [], none⟩])))
  (.region false [⟨some 34, .bin .add (.t 27) (.k (.one (.iv (.int .i64 1)))), [], none⟩,
    ⟨some 27, .mov none (.t 34), [], none⟩])))
def b87 : VCode := .seq (.region false [⟨some 2, .mov none (.k (.one (.iv (.sl true 0 [])))), [], none⟩])
  (.seq (.region false [⟨some 3, .mov none (.k (.one (.iv (.int .i64 0)))), [], none⟩])
  (.seq (.seq (.region false [⟨some 9, .mov none (.t 0), [], none⟩,
    ⟨some 10, .blt .len [.t 9], [], none⟩,
    ⟨some 11, .mov none (.k (.one (.iv (.int .i64 0)))), [], none⟩])
  (.block 0 (.loop false [0, 3, 9, 10, 11] l87_0)))
  (.seq (.region false [⟨some 23, .mov none (.t 3), [], none⟩,
    ⟨some 24, .call 120 [(false, .k (.one (.iv (.sl true 0 [])))), (false, .t 23)], [], none⟩,
    ⟨some 6, .mov none (.t 24), [], none⟩])
  (.seq (.seq (.region false [⟨some 25, .mov none (.t 0), [], none⟩,
    ⟨some 26, .blt .len [.t 25], [], none⟩,
    ⟨some 27, .mov none (.k (.one (.iv (.int .i64 0)))), [], none⟩])
  (.block 2 (.loop false [6, 25, 26, 27] l87_1)))
  (.seq (.region false [⟨some 35, .mov none (.t 6), [], none⟩,
    ⟨some 2, .mov none (.t 35), [], none⟩])
  (.ret))))))
def v87 : VFn := ⟨1, 36, [.t 2], b87⟩

theorem c87 : chkFn Try.prog 87 v87 = true := by kernel_rfl

/- slices.Equal[[]scholia/api.Dot,scholia/api.Dot] -/
def l88_0 : VCode := .seq (.region false [⟨some 14, .bin .lss (.t 13) (.t 12), [], none⟩])
  (.seq (.cond (.t 14) (.skip) (.exit 0))
  (.seq (.block 1 (.seq (.region false [⟨some 15, .mov none (.t 13), [], none⟩,
    ⟨some 5, .mov none (.t 15), [], none⟩])
  (.seq (.region true [⟨some 16, .mov none (.t 0), [], none⟩,
    ⟨some 17, .mov none (.t 5), [], none⟩,
    ⟨some 18, .ixS 2 (.t 16) (.t 17), [1, 0], none⟩,
    ⟨some 19, .load true 2 (.t 18), [2], none⟩,
    ⟨some 20, .mov none (.t 1), [], none⟩,
    ⟨some 21, .mov none (.t 5), [], none⟩,
    ⟨some 22, .ixS 2 (.t 20) (.t 21), [5, 4], none⟩,
    ⟨some 23, .load true 2 (.t 22), [6], none⟩,
    ⟨some 24, .eqa .neq ([.int] ++ [.int]) (.t 19) (.t 23), [7, 3], none⟩])
  (.cond (.t 24) (.seq (.region false [⟨some 4, .mov none (.k (.one (.iv (.bool false)))), [], none⟩])
  (.ret)) (.skip)))))
  (.region false [⟨some 25, .bin .add (.t 13) (.k (.one (.iv (.int .i64 1)))), [], none⟩,
    ⟨some 13, .mov none (.t 25), [], none⟩])))
def b88 : VCode := .seq (.region false [⟨some 4, .mov none (.k (.one (.iv (.bool false)))), [], none⟩])
  (.seq (.seq (.region false [⟨some 6, .mov none (.t 0), [], none⟩,
    ⟨some 7, .blt .len [.t 6], [], none⟩,
    ⟨some 8, .mov none (.t 1), [], none⟩,
    ⟨some 9, .blt .len [.t 8], [], none⟩,
    ⟨some 10, .bin .neq (.t 7) (.t 9), [], none⟩])
  (.cond (.t 10) (.seq (.region false [⟨some 4, .mov none (.k (.one (.iv (.bool false)))), [], none⟩])
  (.ret)) (.skip)))
  (.seq (.seq (.region false [⟨some 11, .mov none (.t 0), [], none⟩,
    ⟨some 12, .blt .len [.t 11], [], none⟩,
    ⟨some 13, .mov none (.k (.one (.iv (.int .i64 0)))), [], none⟩])
  (.block 0 (.loop false [0, 1, 12, 13] l88_0)))
  (.seq (.region false [⟨some 4, .mov none (.k (.one (.iv (.bool true)))), [], none⟩])
  (.ret))))
def v88 : VFn := ⟨2, 26, [.t 4], b88⟩

theorem c88 : chkFn Try.prog 88 v88 = true := by kernel_rfl

/- cmp.isNaN[int] -/
def b113 : VCode := .seq (.region false [⟨some 2, .mov none (.k (.one (.iv (.bool false)))), [], none⟩])
  (.seq (.region false [⟨some 3, .mov none (.t 0), [], none⟩,
    ⟨some 4, .mov none (.t 0), [], none⟩,
    ⟨some 5, .bin .neq (.t 3) (.t 4), [], none⟩,
    ⟨some 2, .mov none (.t 5), [], none⟩])
  (.ret))
def v113 : VFn := ⟨1, 6, [.t 2], b113⟩

theorem c113 : chkFn Try.prog 113 v113 = true := by kernel_rfl

/- slices.IndexFunc[[]scholia/api.Dot,scholia/api.Dot] -/
def l116_0 : VCode := .seq (.region false [⟨some 9, .bin .lss (.t 8) (.t 7), [], none⟩])
  (.seq (.cond (.t 9) (.skip) (.exit 0))
  (.seq (.block 1 (.seq (.region false [⟨some 10, .mov none (.t 8), [], none⟩,
    ⟨some 5, .mov none (.t 10), [], none⟩])
  (.seq (.region false [⟨some 11, .mov none (.t 1), [], none⟩,
    ⟨some 12, .mov none (.t 0), [], none⟩,
    ⟨some 13, .mov none (.t 5), [], none⟩,
    ⟨some 14, .ixS 2 (.t 12) (.t 13), [], none⟩,
    ⟨some 15, .load true 2 (.t 14), [], none⟩,
    ⟨some 16, .callv (.t 11) [(false, .t 15)], [], none⟩])
  (.cond (.t 16) (.seq (.region false [⟨some 17, .mov none (.t 5), [], none⟩,
    ⟨some 4, .mov none (.t 17), [], none⟩])
  (.ret)) (.skip)))))
  (.region false [⟨some 18, .bin .add (.t 8) (.k (.one (.iv (.int .i64 1)))), [], none⟩,
    ⟨some 8, .mov none (.t 18), [], none⟩])))
def b116 : VCode := .seq (.region false [⟨some 4, .mov none (.k (.one (.iv (.int .i64 0)))), [], none⟩])
  (.seq (.seq (.region false [⟨some 6, .mov none (.t 0), [], none⟩,
    ⟨some 7, .blt .len [.t 6], [], none⟩,
    ⟨some 8, .mov none (.k (.one (.iv (.int .i64 0)))), [], none⟩])
  (.block 0 (.loop false [0, 1, 7, 8] l116_0)))
  (.seq (.region false [⟨some 4, .mov none (.k (.one (.iv (.int .i64 (-1))))), [], none⟩])
  (.ret)))
def v116 : VFn := ⟨2, 19, [.t 4], b116⟩

theorem c116 : chkFn Try.prog 116 v116 = true := by kernel_rfl

/- slices.Index[[]scholia/api.Dot,scholia/api.Dot] -/
def l119_0 : VCode := .seq (.region false [⟨some 9, .bin .lss (.t 8) (.t 7), [], none⟩])
  (.seq (.cond (.t 9) (.skip) (.exit 0))
  (.seq (.block 1 (.seq (.region false [⟨some 10, .mov none (.t 8), [], none⟩,
    ⟨some 5, .mov none (.t 10), [], none⟩])
  (.seq (.region true [⟨some 11, .load true 2 (.t 3), [], none⟩,
    ⟨some 12, .mov none (.t 0), [], none⟩,
    ⟨some 13, .mov none (.t 5), [], none⟩,
    ⟨some 14, .ixS 2 (.t 12) (.t 13), [2, 1], none⟩,
    ⟨some 15, .load true 2 (.t 14), [3], none⟩,
    ⟨some 16, .eqa .eql ([.int] ++ [.int]) (.t 11) (.t 15), [4, 0], none⟩])
  (.cond (.t 16) (.seq (.region false [⟨some 17, .mov none (.t 5), [], none⟩,
    ⟨some 4, .mov none (.t 17), [], none⟩])
  (.ret)) (.skip)))))
  (.region false [⟨some 18, .bin .add (.t 8) (.k (.one (.iv (.int .i64 1)))), [], none⟩,
    ⟨some 8, .mov none (.t 18), [], none⟩])))
def b119 : VCode := .seq (.region false [⟨some 3, .box (.t 1), [], none⟩,
    ⟨some 4, .mov none (.k (.one (.iv (.int .i64 0)))), [], none⟩])
  (.seq (.seq (.region false [⟨some 6, .mov none (.t 0), [], none⟩,
    ⟨some 7, .blt .len [.t 6], [], none⟩,
    ⟨some 8, .mov none (.k (.one (.iv (.int .i64 0)))), [], none⟩])
  (.block 0 (.loop false [0, 3, 7, 8] l119_0)))
  (.seq (.region false [⟨some 4, .mov none (.k (.one (.iv (.int .i64 (-1))))), [], none⟩])
  (.ret)))
def v119 : VFn := ⟨2, 19, [.t 4], b119⟩

theorem c119 : chkFn Try.prog 119 v119 = true := by kernel_rfl

def tab : List (Nat × VFn) := [(6, v6), (7, v7), (8, v8), (17, v17), (18, v18), (19, v19), (20, v20), (21, v21), (22, v22), (25, v25), (26, v26), (29, v29), (34, v34), (35, v35), (36, v36), (37, v37), (38, v38), (39, v39), (40, v40), (41, v41), (42, v42), (43, v43), (76, v76), (77, v77), (78, v78), (79, v79), (82, v82), (84, v84), (86, v86), (87, v87), (88, v88), (113, v113), (116, v116), (119, v119)]

theorem tab_ok : TabOK Try.prog (lookT tab) := tabOK_cons c6 (tabOK_cons c7 (tabOK_cons c8 (tabOK_cons c17 (tabOK_cons c18 (tabOK_cons c19 (tabOK_cons c20 (tabOK_cons c21 (tabOK_cons c22 (tabOK_cons c25 (tabOK_cons c26 (tabOK_cons c29 (tabOK_cons c34 (tabOK_cons c35 (tabOK_cons c36 (tabOK_cons c37 (tabOK_cons c38 (tabOK_cons c39 (tabOK_cons c40 (tabOK_cons c41 (tabOK_cons c42 (tabOK_cons c43 (tabOK_cons c76 (tabOK_cons c77 (tabOK_cons c78 (tabOK_cons c79 (tabOK_cons c82 (tabOK_cons c84 (tabOK_cons c86 (tabOK_cons c87 (tabOK_cons c88 (tabOK_cons c113 (tabOK_cons c116 (tabOK_cons c119 tabOK_nil)))))))))))))))))))))))))))))))))

def clones : List (Nat × Nat × Nat) := [(83, 2, 16)]

theorem clones_ok : chkClones Try.prog clones = true := by kernel_rfl

theorem mixed : Try.prog.follows .mixedOrders = true := by kernel_rfl

theorem pr_ok : PrOK Try.prog (fun _ => clonePr clones) := fun _ _ _ => clonePr_ok mixed clones_ok

theorem pr_mono : PrMono (fun _ => clonePr clones) := const_mono

abbrev Pl (f : Nat) (vs : List FV) (v : FV) (bs : List Blk) : Prop := Plays (lookT tab) (fun _ => clonePr clones) f vs [] (v, bs)

end Go.Proofs.Ytomchclmnmhjaaa
