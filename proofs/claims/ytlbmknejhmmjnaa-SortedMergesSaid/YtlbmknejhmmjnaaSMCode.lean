/- The code of the functions that a statement reaches, as V-code, checked against the program. Printed by a program. -/
import Derived.Test.YtlbmknejhmmjnaaV3
import Derived.Test.YtlbmknejhmmjnaaChecked
import Derived.KernelRfl
set_option maxRecDepth 100000
namespace Go.Proofs.Ytlbmknejhmmjnaa
open Go GoV

/- scholia/scholialaw06.SortedMerges -/
def l3_0 : VCode := .seq (.region false [⟨some 11, .bin .lss (.t 10) (.t 9), [], none⟩])
  (.seq (.cond (.t 11) (.skip) (.exit 0))
  (.seq (.block 1 (.seq (.region false [⟨some 12, .mov none (.t 10), [], none⟩,
    ⟨some 13, .ixS 1 (.t 8) (.t 10), [], none⟩,
    ⟨some 14, .load false 1 (.t 13), [], none⟩,
    ⟨some 6, .mov none (.t 12), [], none⟩,
    ⟨some 7, .mov none (.t 14), [], none⟩])
  (.seq (.seq (.region false [⟨some 15, .mov none (.t 6), [], none⟩,
    ⟨some 16, .bin .geq (.t 15) (.k (.one (.iv (.int .i64 20)))), [], none⟩])
  (.cond (.t 16) (.exit 0) (.skip)))
  (.seq (.region false [⟨some 17, .mov none (.t 7), [], none⟩,
    ⟨some 18, .mov none (.t 7), [], none⟩,
    ⟨some 19, .blt .len [.t 18], [], none⟩,
    ⟨some 20, .mov none (.t 5), [], none⟩,
    ⟨some 21, .bin .sub (.k (.one (.iv (.int .i64 200)))) (.t 20), [], none⟩,
    ⟨some 22, .blt .min [.t 19, .t 21], [], none⟩,
    ⟨some 23, .slS 1 (.t 17) none (some (.t 22)) none, [], none⟩,
    ⟨some 7, .mov none (.t 23), [], none⟩])
  (.seq (.region false [⟨some 24, .mov none (.t 5), [], none⟩,
    ⟨some 25, .mov none (.t 7), [], none⟩,
    ⟨some 26, .blt .len [.t 25], [], none⟩,
    ⟨some 27, .bin .add (.t 24) (.t 26), [], none⟩,
    ⟨some 5, .mov none (.t 27), [], none⟩])
  (.seq (.region false [⟨some 28, .mov none (.t 3), [], none⟩,
    ⟨some 29, .mov none (.t 7), [], none⟩,
    ⟨some 30, .call 9 [(false, .t 29)], [], none⟩,
    ⟨some 31, .mks false 1 [.t 30], [], none⟩,
    ⟨some 32, .blt (.append 1 24) [.t 28, .t 31], [], none⟩,
    ⟨some 3, .mov none (.t 32), [], none⟩])
  (.region false [⟨some 33, .mov none (.t 4), [], none⟩,
    ⟨some 34, .mov none (.t 7), [], none⟩,
    ⟨some 35, .call 9 [(false, .t 34)], [], none⟩,
    ⟨some 36, .blt (.append 1 8) [.t 33, .t 35], [], none⟩,
    ⟨some 4, .mov none (.t 36), [], none⟩])))))))
  (.region false [⟨some 37, .bin .add (.t 10) (.k (.one (.iv (.int .i64 1)))), [], none⟩,
    ⟨some 10, .mov none (.t 37), [], none⟩])))
def b3 : VCode := .seq (.region false [⟨some 2, .mov none (.k (.one (.iv (.bool false)))), [], none⟩])
  (.seq (.region false [⟨some 3, .mov (some 1) (.k (.one (.iv (.sl true 0 [])))), [], none⟩])
  (.seq (.region false [⟨some 4, .mov (some 1) (.k (.one (.iv (.sl true 0 [])))), [], none⟩])
  (.seq (.region false [⟨some 5, .mov none (.k (.one (.iv (.int .i64 0)))), [], none⟩])
  (.seq (.seq (.region false [⟨some 8, .mov none (.t 0), [], none⟩,
    ⟨some 9, .blt .len [.t 8], [], none⟩,
    ⟨some 10, .mov none (.k (.one (.iv (.int .i64 0)))), [], none⟩])
  (.block 0 (.loop false [3, 4, 5, 8, 9, 10] l3_0)))
  (.seq (.region false [⟨some 38, .mov none (.t 3), [], none⟩,
    ⟨some 39, .call 11 [(false, .k (.one (.iv (.fn 12)))), (false, .t 38)], [], none⟩,
    ⟨some 40, .mov none (.t 4), [], none⟩,
    ⟨some 41, .call 9 [(false, .t 40)], [], none⟩,
    ⟨some 42, .call 10 [(false, .t 39), (false, .t 41)], [], none⟩,
    ⟨some 43, .mov none (.t 42), [], none⟩,
    ⟨some 44, .call 13 [], [], some (43, true)⟩,
    ⟨some 45, .pick (.t 43) (.t 44) (.k (.one (.iv (.bool false)))), [], none⟩,
    ⟨some 2, .mov none (.t 45), [], none⟩])
  (.ret))))))
def v3 : VFn := ⟨1, 46, [.t 2], b3⟩

theorem c3 : chkFn Try.prog 3 v3 = true := by kernel_rfl

/- scholia/scholialaw06.SortedBest -/
def l4_0 : VCode := .seq (.region false [⟨some 23, .bin .lss (.t 22) (.t 21), [], none⟩])
  (.seq (.cond (.t 23) (.skip) (.exit 0))
  (.seq (.block 1 (.seq (.region false [⟨some 24, .ixS 1 (.t 20) (.t 22), [], none⟩,
    ⟨some 25, .load false 1 (.t 24), [], none⟩,
    ⟨some 7, .mov none (.t 25), [], none⟩])
  (.region false [⟨some 26, .mov none (.t 5), [], none⟩,
    ⟨some 27, .mov none (.t 7), [], none⟩,
    ⟨some 28, .call 15 [(false, .t 26), (false, .t 27)], [], none⟩])))
  (.region false [⟨some 29, .bin .add (.t 22) (.k (.one (.iv (.int .i64 1)))), [], none⟩,
    ⟨some 22, .mov none (.t 29), [], none⟩])))
def l4_1 : VCode := .seq (.region false [⟨some 56, .bin .lss (.t 55) (.t 54), [], none⟩])
  (.seq (.cond (.t 56) (.skip) (.exit 2))
  (.seq (.block 3 (.seq (.region false [⟨some 57, .ixS 1 (.t 53) (.t 55), [], none⟩,
    ⟨some 58, .load false 1 (.t 57), [], none⟩,
    ⟨some 12, .mov none (.t 58), [], none⟩])
  (.seq (.region false [⟨some 59, .mov none (.t 1), [], none⟩,
    ⟨some 60, .mov none (.t 12), [], none⟩,
    ⟨some 61, .call 18 [(false, .t 59), (false, .t 60)], [], none⟩,
    ⟨some 62, .un .not (.t 61), [], none⟩])
  (.cond (.t 62) (.seq (.region false [⟨some 4, .mov none (.k (.one (.iv (.bool false)))), [], none⟩])
  (.ret)) (.skip)))))
  (.region false [⟨some 63, .bin .add (.t 55) (.k (.one (.iv (.int .i64 1)))), [], none⟩,
    ⟨some 55, .mov none (.t 63), [], none⟩])))
def b4 : VCode := .seq (.region false [⟨some 4, .mov none (.k (.one (.iv (.bool false)))), [], none⟩])
  (.seq (.region false [⟨some 13, .mov none (.t 1), [], none⟩,
    ⟨some 14, .mov none (.t 1), [], none⟩,
    ⟨some 15, .blt .len [.t 14], [], none⟩,
    ⟨some 16, .blt .min [.t 15, .k (.one (.iv (.int .i64 200)))], [], none⟩,
    ⟨some 17, .slS 1 (.t 13) none (some (.t 16)) none, [], none⟩,
    ⟨some 1, .mov none (.t 17), [], none⟩])
  (.seq (.region false [⟨some 18, .mov none (.t 0), [], none⟩,
    ⟨some 19, .call 14 [(false, .t 18), (false, .k (.one (.iv (.fn 12))))], [], none⟩,
    ⟨some 5, .mov none (.t 19), [], none⟩])
  (.seq (.seq (.region false [⟨some 20, .mov none (.t 1), [], none⟩,
    ⟨some 21, .blt .len [.t 20], [], none⟩,
    ⟨some 22, .mov none (.k (.one (.iv (.int .i64 0)))), [], none⟩])
  (.block 0 (.loop false [0, 1, 5, 20, 21, 22] l4_0)))
  (.seq (.region false [⟨some 30, .mov none (.t 5), [], none⟩,
    ⟨some 31, .call 16 [(false, .t 30)], [], none⟩,
    ⟨some 32, .mov none (.t 1), [], none⟩,
    ⟨some 33, .call 9 [(false, .t 32)], [], none⟩,
    ⟨some 8, .mov none (.t 31), [], none⟩,
    ⟨some 9, .mov none (.t 33), [], none⟩])
  (.seq (.region false [⟨some 34, .mov none (.t 0), [], none⟩,
    ⟨some 35, .blt .max [.t 34, .k (.one (.iv (.int .i64 0)))], [], none⟩,
    ⟨some 36, .mov none (.t 9), [], none⟩,
    ⟨some 37, .blt .len [.t 36], [], none⟩,
    ⟨some 38, .blt .min [.t 35, .t 37], [], none⟩,
    ⟨some 10, .mov none (.t 38), [], none⟩])
  (.seq (.seq (.region true [⟨some 39, .mov none (.t 8), [], none⟩,
    ⟨some 40, .call 17 [(false, .t 39)], [0], none⟩,
    ⟨some 41, .mov none (.t 9), [], none⟩,
    ⟨some 42, .mov none (.t 10), [], none⟩,
    ⟨some 43, .slS 1 (.t 41) none (some (.t 42)) none, [3, 2], none⟩,
    ⟨some 44, .call 17 [(false, .t 43)], [4, 1], none⟩,
    ⟨some 45, .call 10 [(false, .t 40), (false, .t 44)], [5], none⟩,
    ⟨some 46, .un .not (.t 45), [6], none⟩,
    ⟨some 47, .mov none (.t 46), [7], none⟩,
    ⟨some 48, .mov none (.t 5), [8], some (47, false)⟩,
    ⟨some 49, .call 16 [(false, .t 48)], [9], some (47, false)⟩,
    ⟨some 50, .blt .len [.t 49], [10], some (47, false)⟩,
    ⟨some 51, .bin .neq (.t 50) (.k (.one (.iv (.int .i64 0)))), [11], some (47, false)⟩,
    ⟨some 52, .pick (.t 47) (.k (.one (.iv (.bool true)))) (.t 51), [12], none⟩])
  (.cond (.t 52) (.seq (.region false [⟨some 4, .mov none (.k (.one (.iv (.bool false)))), [], none⟩])
  (.ret)) (.skip)))
  (.seq (.seq (.region false [⟨some 53, .mov none (.t 8), [], none⟩,
    ⟨some 54, .blt .len [.t 53], [], none⟩,
    ⟨some 55, .mov none (.k (.one (.iv (.int .i64 0)))), [], none⟩])
  (.block 2 (.loop false [1, 53, 54, 55] l4_1)))
  (.seq (.region false [⟨some 64, .call 13 [], [], none⟩,
    ⟨some 4, .mov none (.t 64), [], none⟩])
  (.ret)))))))))
def v4 : VFn := ⟨2, 65, [.t 4], b4⟩

theorem c4 : chkFn Try.prog 4 v4 = true := by kernel_rfl

/- scholia/scholiaref06.Sort -/
def l9_1 : VCode := .seq (.region false [⟨some 13, .bin .lss (.t 12) (.t 11), [], none⟩])
  (.seq (.cond (.t 13) (.skip) (.exit 2))
  (.seq (.block 3 (.seq (.region false [⟨some 14, .ixS 1 (.t 10) (.t 12), [], none⟩,
    ⟨some 15, .load false 1 (.t 14), [], none⟩,
    ⟨some 6, .mov none (.t 15), [], none⟩])
  (.seq (.region false [⟨some 16, .mov none (.t 6), [], none⟩,
    ⟨some 17, .call 44 [(false, .t 16)], [], none⟩,
    ⟨some 18, .mov none (.t 4), [], none⟩,
    ⟨some 19, .bin .eql (.t 17) (.t 18), [], none⟩])
  (.cond (.t 19) (.region false [⟨some 20, .mov none (.t 3), [], none⟩,
    ⟨some 21, .mov none (.t 6), [], none⟩,
    ⟨some 22, .mks false 1 [.t 21], [], none⟩,
    ⟨some 23, .blt (.append 1 8) [.t 20, .t 22], [], none⟩,
    ⟨some 3, .mov none (.t 23), [], none⟩]) (.skip)))))
  (.region false [⟨some 24, .bin .add (.t 12) (.k (.one (.iv (.int .i64 1)))), [], none⟩,
    ⟨some 12, .mov none (.t 24), [], none⟩])))
def l9_0 : VCode := .seq (.region false [⟨some 8, .bin .lss (.t 7) (.k (.one (.iv (.int .i64 10)))), [], none⟩])
  (.seq (.cond (.t 8) (.skip) (.exit 0))
  (.seq (.block 1 (.seq (.region false [⟨some 9, .mov none (.t 7), [], none⟩,
    ⟨some 4, .mov none (.t 9), [], none⟩])
  (.seq (.region false [⟨some 10, .mov none (.t 0), [], none⟩,
    ⟨some 11, .blt .len [.t 10], [], none⟩,
    ⟨some 12, .mov none (.k (.one (.iv (.int .i64 0)))), [], none⟩])
  (.block 2 (.loop false [0, 3, 4, 7, 10, 11, 12] l9_1)))))
  (.region false [⟨some 25, .bin .add (.t 7) (.k (.one (.iv (.int .i64 1)))), [], none⟩,
    ⟨some 7, .mov none (.t 25), [], none⟩])))
def b9 : VCode := .seq (.region false [⟨some 2, .mov none (.k (.one (.iv (.sl true 0 [])))), [], none⟩])
  (.seq (.region false [⟨some 3, .mov (some 1) (.k (.one (.iv (.sl true 0 [])))), [], none⟩])
  (.seq (.seq (.region false [⟨some 7, .mov none (.k (.one (.iv (.int .i64 0)))), [], none⟩])
  (.block 0 (.loop false [0, 3, 7] l9_0)))
  (.seq (.region false [⟨some 26, .mov none (.t 3), [], none⟩,
    ⟨some 2, .mov none (.t 26), [], none⟩])
  (.ret))))
def v9 : VFn := ⟨1, 27, [.t 2], b9⟩

theorem c9 : chkFn Try.prog 9 v9 = true := by kernel_rfl

/- slices.Equal[[]int,int] -/
def l10_0 : VCode := .seq (.region false [⟨some 14, .bin .lss (.t 13) (.t 12), [], none⟩])
  (.seq (.cond (.t 14) (.skip) (.exit 0))
  (.seq (.block 1 (.seq (.region false [⟨some 15, .mov none (.t 13), [], none⟩,
    ⟨some 5, .mov none (.t 15), [], none⟩])
  (.seq (.region true [⟨some 16, .mov none (.t 0), [], none⟩,
    ⟨some 17, .mov none (.t 5), [], none⟩,
    ⟨some 18, .ixS 1 (.t 16) (.t 17), [1, 0], none⟩,
    ⟨some 19, .load false 1 (.t 18), [2], none⟩,
    ⟨some 20, .mov none (.t 1), [], none⟩,
    ⟨some 21, .mov none (.t 5), [], none⟩,
    ⟨some 22, .ixS 1 (.t 20) (.t 21), [5, 4], none⟩,
    ⟨some 23, .load false 1 (.t 22), [6], none⟩,
    ⟨some 24, .bin .neq (.t 19) (.t 23), [7, 3], none⟩])
  (.cond (.t 24) (.seq (.region false [⟨some 4, .mov none (.k (.one (.iv (.bool false)))), [], none⟩])
  (.ret)) (.skip)))))
  (.region false [⟨some 25, .bin .add (.t 13) (.k (.one (.iv (.int .i64 1)))), [], none⟩,
    ⟨some 13, .mov none (.t 25), [], none⟩])))
def b10 : VCode := .seq (.region false [⟨some 4, .mov none (.k (.one (.iv (.bool false)))), [], none⟩])
  (.seq (.seq (.region false [⟨some 6, .mov none (.t 0), [], none⟩,
    ⟨some 7, .blt .len [.t 6], [], none⟩,
    ⟨some 8, .mov none (.t 1), [], none⟩,
    ⟨some 9, .blt .len [.t 8], [], none⟩,
    ⟨some 10, .bin .neq (.t 7) (.t 9), [], none⟩])
  (.cond (.t 10) (.seq (.region false [⟨some 4, .mov none (.k (.one (.iv (.bool false)))), [], none⟩])
  (.ret)) (.skip)))
  (.seq (.seq (.region false [⟨some 11, .mov none (.t 0), [], none⟩,
    ⟨some 12, .blt .len [.t 11], [], none⟩,
    ⟨some 13, .mov none (.k (.one (.iv (.int .i64 0)))), [], none⟩])
  (.block 0 (.loop false [0, 1, 12, 13] l10_0)))
  (.seq (.region false [⟨some 4, .mov none (.k (.one (.iv (.bool true)))), [], none⟩])
  (.ret))))
def v10 : VFn := ⟨2, 26, [.t 4], b10⟩

theorem c10 : chkFn Try.prog 10 v10 = true := by kernel_rfl

/- scholia/sorted.Merge[int] -/
def l11_0 : VCode := .seq (.region false [⟨some 18, .bin .lss (.t 17) (.t 16), [], none⟩])
  (.seq (.cond (.t 18) (.skip) (.exit 0))
  (.seq (.block 1 (.seq (.region false [⟨some 19, .mov none (.t 17), [], none⟩,
    ⟨some 20, .ixS 1 (.t 15) (.t 17), [], none⟩,
    ⟨some 21, .load false 1 (.t 20), [], none⟩,
    ⟨some 6, .mov none (.t 19), [], none⟩,
    ⟨some 7, .mov none (.t 21), [], none⟩])
  (.seq (.region false [⟨some 22, .mov none (.t 7), [], none⟩,
    ⟨some 23, .blt .len [.t 22], [], none⟩,
    ⟨some 24, .bin .gtr (.t 23) (.k (.one (.iv (.int .i64 0)))), [], none⟩])
  (.cond (.t 24) (.region true [⟨some 25, .mov none (.t 5), [], none⟩,
    ⟨some 26, .mov none (.t 7), [], none⟩,
    ⟨some 27, .ixS 1 (.t 26) (.k (.one (.iv (.int .i64 0)))), [1], none⟩,
    ⟨some 28, .load false 1 (.t 27), [2], none⟩,
    ⟨some 29, .mov none (.t 6), [], none⟩,
    ⟨some 30, .mov none (.t 7), [], none⟩,
    ⟨some 31, .slS 1 (.t 30) (some (.k (.one (.iv (.int .i64 1))))) none none, [5], none⟩,
    ⟨some 32, .build [.iv (.int .i64 0), .iv (.int .i64 0), .iv (.sl true 0 [])] [(0, 1, .t 28), (1, 1, .t 29), (2, 1, .t 31)], [6, 4, 3], none⟩,
    ⟨some 33, .call 47 [(false, .t 25), (false, .t 32)], [7, 0], none⟩]) (.skip)))))
  (.region false [⟨some 34, .bin .add (.t 17) (.k (.one (.iv (.int .i64 1)))), [], none⟩,
    ⟨some 17, .mov none (.t 34), [], none⟩])))
def l11_1 : VCode := .block 3 (.seq (.region false [⟨some 36, .mov none (.t 5), [], none⟩,
    ⟨some 37, .call 48 [(false, .t 36)], [], none⟩,
    ⟨some 35, .mov none (.t 37), [], none⟩,
    ⟨some 38, .ext 0 (.t 35), [], none⟩,
    ⟨some 39, .ext 1 (.t 35), [], none⟩,
    ⟨some 9, .new [.iv (.int .i64 0), .iv (.int .i64 0), .iv (.sl true 0 [])], [], none⟩,
    ⟨none, .store 3 (.t 9) (.t 38), [], none⟩,
    ⟨some 10, .mov none (.t 39), [], none⟩])
  (.seq (.seq (.region false [⟨some 40, .mov none (.t 10), [], none⟩,
    ⟨some 41, .un .not (.t 40), [], none⟩])
  (.cond (.t 41) (.seq (.region false [⟨some 42, .mov none (.t 8), [], none⟩,
    ⟨some 4, .mov none (.t 42), [], none⟩])
  (.ret)) (.skip)))
  (.seq (.region false [⟨some 43, .mov none (.t 8), [], none⟩,
    ⟨some 44, .fad 0 (.t 9), [], none⟩,
    ⟨some 45, .load false 1 (.t 44), [], none⟩,
    ⟨some 46, .mks false 1 [.t 45], [], none⟩,
    ⟨some 47, .blt (.append 1 8) [.t 43, .t 46], [], none⟩,
    ⟨some 8, .mov none (.t 47), [], none⟩])
  (.seq (.region false [⟨some 48, .fad 2 (.t 9), [], none⟩,
    ⟨some 49, .load false 1 (.t 48), [], none⟩,
    ⟨some 50, .blt .len [.t 49], [], none⟩,
    ⟨some 51, .bin .gtr (.t 50) (.k (.one (.iv (.int .i64 0)))), [], none⟩])
  (.cond (.t 51) (.region true [⟨some 52, .mov none (.t 5), [], none⟩,
    ⟨some 53, .fad 2 (.t 9), [], none⟩,
    ⟨some 54, .load false 1 (.t 53), [1], none⟩,
    ⟨some 55, .ixS 1 (.t 54) (.k (.one (.iv (.int .i64 0)))), [2], none⟩,
    ⟨some 56, .load false 1 (.t 55), [3], none⟩,
    ⟨some 57, .fad 1 (.t 9), [], none⟩,
    ⟨some 58, .load false 1 (.t 57), [5], none⟩,
    ⟨some 59, .fad 2 (.t 9), [], none⟩,
    ⟨some 60, .load false 1 (.t 59), [7], none⟩,
    ⟨some 61, .slS 1 (.t 60) (some (.k (.one (.iv (.int .i64 1))))) none none, [8], none⟩,
    ⟨some 62, .build [.iv (.int .i64 0), .iv (.int .i64 0), .iv (.sl true 0 [])] [(0, 1, .t 56), (1, 1, .t 58), (2, 1, .t 61)], [9, 6, 4], none⟩,
    ⟨some 63, .call 47 [(false, .t 52), (false, .t 62)], [10, 0], none⟩]) (.skip))))))
def b11 : VCode := .seq (.region false [⟨some 2, .box (.t 0), [], none⟩,
    ⟨some 4, .mov none (.k (.one (.iv (.sl true 0 [])))), [], none⟩])
  (.seq (.seq (.region false [⟨some 11, .load false 1 (.t 2), [], none⟩,
    ⟨some 12, .eqs .eql .func (.t 11) (.k (.one (.iv .niln))), [], none⟩])
  (.cond (.t 12) (.seq (.region false [⟨some 4, .mov none (.k (.one (.iv (.sl true 0 [])))), [], none⟩])
  (.ret)) (.skip)))
  (.seq (.region false [⟨some 13, .mkf 46 [.t 2], [], none⟩,
    ⟨some 14, .call 45 [(false, .t 13)], [], none⟩,
    ⟨some 5, .mov none (.t 14), [], none⟩])
  (.seq (.seq (.region false [⟨some 15, .mov none (.t 1), [], none⟩,
    ⟨some 16, .blt .len [.t 15], [], none⟩,
    ⟨some 17, .mov none (.k (.one (.iv (.int .i64 0)))), [], none⟩])
  (.block 0 (.loop false [5, 15, 16, 17] l11_0)))
  (.seq (.region false [⟨some 8, .mov (some 1) (.k (.one (.iv (.sl true 0 [])))), [], none⟩])
  (.block 2 (.loop false [5, 8] l11_1))))))
def v11 : VFn := ⟨2, 64, [.t 4], b11⟩

theorem c11 : chkFn Try.prog 11 v11 = true := by kernel_rfl

/- scholia/scholiaref06.Less -/
def b12 : VCode := .seq (.region false [⟨some 4, .mov none (.k (.one (.iv (.bool false)))), [], none⟩])
  (.seq (.region false [⟨some 5, .mov none (.t 0), [], none⟩,
    ⟨some 6, .call 44 [(false, .t 5)], [], none⟩,
    ⟨some 7, .mov none (.t 1), [], none⟩,
    ⟨some 8, .call 44 [(false, .t 7)], [], none⟩,
    ⟨some 9, .bin .lss (.t 6) (.t 8), [], none⟩,
    ⟨some 4, .mov none (.t 9), [], none⟩])
  (.ret))
def v12 : VFn := ⟨2, 10, [.t 4], b12⟩

theorem c12 : chkFn Try.prog 12 v12 = true := by kernel_rfl

/- scholia/scholialaw06.awake -/
def b13 : VCode := .seq (.region false [⟨some 0, .mov none (.k (.one (.iv (.bool false)))), [], none⟩])
  (.seq (.region false [⟨some 2, .mks false 1 [.k (.one (.iv (.int .i64 1))), .k (.one (.iv (.int .i64 4)))], [], none⟩,
    ⟨some 3, .mks false 1 [.k (.one (.iv (.int .i64 2))), .k (.one (.iv (.int .i64 4)))], [], none⟩,
    ⟨some 4, .mks false 1 [.k (.one (.iv (.int .i64 0)))], [], none⟩,
    ⟨some 5, .mks false 1 [.t 2, .t 3, .t 4], [], none⟩,
    ⟨some 6, .call 11 [(false, .k (.one (.iv (.fn 12)))), (false, .t 5)], [], none⟩,
    ⟨some 1, .mov none (.t 6), [], none⟩])
  (.seq (.region false [⟨some 7, .mov none (.t 1), [], none⟩,
    ⟨some 8, .mks false 1 [.k (.one (.iv (.int .i64 0))), .k (.one (.iv (.int .i64 1))), .k (.one (.iv (.int .i64 2))), .k (.one (.iv (.int .i64 4))), .k (.one (.iv (.int .i64 4)))], [], none⟩,
    ⟨some 9, .call 10 [(false, .t 7), (false, .t 8)], [], none⟩,
    ⟨some 0, .mov none (.t 9), [], none⟩])
  (.ret)))
def v13 : VFn := ⟨0, 10, [.t 0], b13⟩

theorem c13 : chkFn Try.prog 13 v13 = true := by kernel_rfl

/- scholia/sorted.NewBest[int] -/
def b14 : VCode := .seq (.region false [⟨some 3, .box (.t 1), [], none⟩,
    ⟨some 4, .mov none (.k (.one (.iv .nilp))), [], none⟩])
  (.seq (.seq (.region false [⟨some 5, .load false 1 (.t 3), [], none⟩,
    ⟨some 6, .eqs .eql .func (.t 5) (.k (.one (.iv .niln))), [], none⟩])
  (.cond (.t 6) (.seq (.region false [⟨some 7, .build [.iv (.int .i64 0), .iv (.nilp)] [], [], none⟩,
    ⟨some 8, .box (.t 7), [], none⟩,
    ⟨some 4, .mov none (.t 8), [], none⟩])
  (.ret)) (.skip)))
  (.seq (.region false [⟨some 9, .mov none (.t 0), [], none⟩,
    ⟨some 10, .blt .max [.t 9, .k (.one (.iv (.int .i64 0)))], [], none⟩,
    ⟨some 11, .mkf 49 [.t 3], [], none⟩,
    ⟨some 12, .call 37 [(false, .t 11)], [], none⟩,
    ⟨some 13, .build [.iv (.int .i64 0), .iv (.nilp)] [(0, 1, .t 10), (1, 1, .t 12)], [], none⟩,
    ⟨some 14, .box (.t 13), [], none⟩,
    ⟨some 4, .mov none (.t 14), [], none⟩])
  (.ret)))
def v14 : VFn := ⟨2, 15, [.t 4], b14⟩

theorem c14 : chkFn Try.prog 14 v14 = true := by kernel_rfl

/- (*scholia/sorted.Best[int]).Offer -/
def b15 : VCode := .seq (.seq (.region false [⟨some 4, .mov none (.t 0), [], none⟩,
    ⟨some 5, .eqs .eql .ptr (.t 4) (.k (.one (.iv .nilp))), [], none⟩,
    ⟨some 6, .mov none (.t 5), [], none⟩,
    ⟨some 7, .mov none (.t 0), [], some (6, false)⟩,
    ⟨some 8, .nilc (.t 7), [], some (6, false)⟩,
    ⟨some 9, .fad 1 (.t 8), [], some (6, false)⟩,
    ⟨some 10, .load false 1 (.t 9), [], some (6, false)⟩,
    ⟨some 11, .eqs .eql .ptr (.t 10) (.k (.one (.iv .nilp))), [], some (6, false)⟩,
    ⟨some 12, .pick (.t 6) (.k (.one (.iv (.bool true)))) (.t 11), [], none⟩,
    ⟨some 13, .mov none (.t 12), [], none⟩,
    ⟨some 14, .mov none (.t 0), [], some (13, false)⟩,
    ⟨some 15, .nilc (.t 14), [], some (13, false)⟩,
    ⟨some 16, .fad 0 (.t 15), [], some (13, false)⟩,
    ⟨some 17, .load false 1 (.t 16), [], some (13, false)⟩,
    ⟨some 18, .bin .eql (.t 17) (.k (.one (.iv (.int .i64 0)))), [], some (13, false)⟩,
    ⟨some 19, .pick (.t 13) (.k (.one (.iv (.bool true)))) (.t 18), [], none⟩])
  (.cond (.t 19) (.ret) (.skip)))
  (.seq (.region false [⟨some 20, .mov none (.t 0), [], none⟩,
    ⟨some 21, .nilc (.t 20), [], none⟩,
    ⟨some 22, .fad 1 (.t 21), [], none⟩,
    ⟨some 23, .load false 1 (.t 22), [], none⟩,
    ⟨some 24, .mov none (.t 1), [], none⟩,
    ⟨some 25, .call 38 [(false, .t 23), (false, .t 24)], [], none⟩])
  (.seq (.region true [⟨some 26, .mov none (.t 0), [], none⟩,
    ⟨some 27, .nilc (.t 26), [0], none⟩,
    ⟨some 28, .fad 1 (.t 27), [1], none⟩,
    ⟨some 29, .load false 1 (.t 28), [2], none⟩,
    ⟨some 30, .call 40 [(false, .t 29)], [3], none⟩,
    ⟨some 31, .mov none (.t 0), [], none⟩,
    ⟨some 32, .nilc (.t 31), [5], none⟩,
    ⟨some 33, .fad 0 (.t 32), [6], none⟩,
    ⟨some 34, .load false 1 (.t 33), [7], none⟩,
    ⟨some 35, .bin .gtr (.t 30) (.t 34), [8, 4], none⟩])
  (.cond (.t 35) (.region false [⟨some 36, .mov none (.t 0), [], none⟩,
    ⟨some 37, .nilc (.t 36), [], none⟩,
    ⟨some 38, .fad 1 (.t 37), [], none⟩,
    ⟨some 39, .load false 1 (.t 38), [], none⟩,
    ⟨some 40, .call 39 [(false, .t 39)], [], none⟩]) (.skip))))
def v15 : VFn := ⟨2, 41, [], b15⟩

theorem c15 : chkFn Try.prog 15 v15 = true := by kernel_rfl

/- (*scholia/sorted.Best[int]).Take -/
def l16_0 : VCode := .seq (.seq (.region false [⟨some 9, .mov none (.t 0), [], none⟩,
    ⟨some 10, .nilc (.t 9), [], none⟩,
    ⟨some 11, .fad 1 (.t 10), [], none⟩,
    ⟨some 12, .load false 1 (.t 11), [], none⟩,
    ⟨some 13, .call 40 [(false, .t 12)], [], none⟩,
    ⟨some 14, .bin .gtr (.t 13) (.k (.one (.iv (.int .i64 0)))), [], none⟩])
  (.cond (.t 14) (.skip) (.exit 0)))
  (.block 1 (.seq (.region false [⟨some 16, .mov none (.t 0), [], none⟩,
    ⟨some 17, .nilc (.t 16), [], none⟩,
    ⟨some 18, .fad 1 (.t 17), [], none⟩,
    ⟨some 19, .load false 1 (.t 18), [], none⟩,
    ⟨some 20, .call 39 [(false, .t 19)], [], none⟩,
    ⟨some 15, .mov none (.t 20), [], none⟩,
    ⟨some 21, .ext 0 (.t 15), [], none⟩,
    ⟨some 22, .ext 1 (.t 15), [], none⟩,
    ⟨some 4, .mov none (.t 21), [], none⟩,
    ⟨some 5, .mov none (.t 22), [], none⟩])
  (.region false [⟨some 23, .mov none (.t 3), [], none⟩,
    ⟨some 24, .mov none (.t 4), [], none⟩,
    ⟨some 25, .mks false 1 [.t 24], [], none⟩,
    ⟨some 26, .blt (.append 1 8) [.t 23, .t 25], [], none⟩,
    ⟨some 3, .mov none (.t 26), [], none⟩])))
def b16 : VCode := .seq (.region false [⟨some 2, .mov none (.k (.one (.iv (.sl true 0 [])))), [], none⟩])
  (.seq (.region false [⟨some 3, .mov (some 1) (.k (.one (.iv (.sl true 0 [])))), [], none⟩])
  (.seq (.seq (.region false [⟨some 6, .mov none (.t 0), [], none⟩,
    ⟨some 7, .eqs .eql .ptr (.t 6) (.k (.one (.iv .nilp))), [], none⟩])
  (.cond (.t 7) (.seq (.region false [⟨some 8, .mov none (.t 3), [], none⟩,
    ⟨some 2, .mov none (.t 8), [], none⟩])
  (.ret)) (.skip)))
  (.seq (.block 0 (.loop false [0, 3] l16_0))
  (.seq (.region false [⟨some 27, .mov none (.t 3), [], none⟩,
    ⟨some 28, .call 50 [(true, .t 27)], [], none⟩])
  (.seq (.region false [⟨some 29, .mov none (.t 3), [], none⟩,
    ⟨some 2, .mov none (.t 29), [], none⟩])
  (.ret))))))
def v16 : VFn := ⟨1, 30, [.t 2], b16⟩

theorem c16 : chkFn Try.prog 16 v16 = true := by kernel_rfl

/- scholia/scholiaref06.Keys -/
def l17_0 : VCode := .seq (.region false [⟨some 9, .bin .lss (.t 8) (.t 7), [], none⟩])
  (.seq (.cond (.t 9) (.skip) (.exit 0))
  (.seq (.block 1 (.seq (.region false [⟨some 10, .ixS 1 (.t 6) (.t 8), [], none⟩,
    ⟨some 11, .load false 1 (.t 10), [], none⟩,
    ⟨some 5, .mov none (.t 11), [], none⟩])
  (.region false [⟨some 12, .mov none (.t 3), [], none⟩,
    ⟨some 13, .mov none (.t 5), [], none⟩,
    ⟨some 14, .call 44 [(false, .t 13)], [], none⟩,
    ⟨some 15, .mks false 1 [.t 14], [], none⟩,
    ⟨some 16, .blt (.append 1 8) [.t 12, .t 15], [], none⟩,
    ⟨some 3, .mov none (.t 16), [], none⟩])))
  (.region false [⟨some 17, .bin .add (.t 8) (.k (.one (.iv (.int .i64 1)))), [], none⟩,
    ⟨some 8, .mov none (.t 17), [], none⟩])))
def b17 : VCode := .seq (.region false [⟨some 2, .mov none (.k (.one (.iv (.sl true 0 [])))), [], none⟩])
  (.seq (.region false [⟨some 3, .mov (some 1) (.k (.one (.iv (.sl true 0 [])))), [], none⟩])
  (.seq (.seq (.region false [⟨some 6, .mov none (.t 0), [], none⟩,
    ⟨some 7, .blt .len [.t 6], [], none⟩,
    ⟨some 8, .mov none (.k (.one (.iv (.int .i64 0)))), [], none⟩])
  (.block 0 (.loop false [3, 6, 7, 8] l17_0)))
  (.seq (.region false [⟨some 18, .mov none (.t 3), [], none⟩,
    ⟨some 2, .mov none (.t 18), [], none⟩])
  (.ret))))
def v17 : VFn := ⟨1, 19, [.t 2], b17⟩

theorem c17 : chkFn Try.prog 17 v17 = true := by kernel_rfl

/- slices.Contains[[]int,int] -/
def b18 : VCode := .seq (.region false [⟨some 4, .mov none (.k (.one (.iv (.bool false)))), [], none⟩])
  (.seq (.region false [⟨some 5, .mov none (.t 0), [], none⟩,
    ⟨some 6, .mov none (.t 1), [], none⟩,
    ⟨some 7, .call 41 [(false, .t 5), (false, .t 6)], [], none⟩,
    ⟨some 8, .bin .geq (.t 7) (.k (.one (.iv (.int .i64 0)))), [], none⟩,
    ⟨some 4, .mov none (.t 8), [], none⟩])
  (.ret))
def v18 : VFn := ⟨2, 9, [.t 4], b18⟩

theorem c18 : chkFn Try.prog 18 v18 = true := by kernel_rfl

/- scholia/sorted.NewHeap[int] -/
def b37 : VCode := .seq (.region false [⟨some 2, .mov none (.k (.one (.iv .nilp))), [], none⟩])
  (.seq (.region false [⟨some 3, .mov none (.t 0), [], none⟩,
    ⟨some 4, .build [.fresh 1, .iv (.niln)] [(1, 1, .t 3)], [], none⟩,
    ⟨some 5, .box (.t 4), [], none⟩,
    ⟨some 2, .mov none (.t 5), [], none⟩])
  (.ret))
def v37 : VFn := ⟨1, 6, [.t 2], b37⟩

theorem c37 : chkFn Try.prog 37 v37 = true := by kernel_rfl

/- (*scholia/sorted.Heap[int]).Push -/
def l38_0 : VCode := .seq (.seq (.region false [⟨some 25, .mov none (.t 4), [], none⟩,
    ⟨some 26, .bin .gtr (.t 25) (.k (.one (.iv (.int .i64 0)))), [], none⟩])
  (.cond (.t 26) (.skip) (.exit 0)))
  (.block 1 (.seq (.region false [⟨some 27, .mov none (.t 4), [], none⟩,
    ⟨some 28, .bin .sub (.t 27) (.k (.one (.iv (.int .i64 1)))), [], none⟩,
    ⟨some 29, .bin .quo (.t 28) (.k (.one (.iv (.int .i64 2)))), [], none⟩,
    ⟨some 5, .mov none (.t 29), [], none⟩])
  (.seq (.seq (.region true [⟨some 30, .mov none (.t 0), [], none⟩,
    ⟨some 31, .nilc (.t 30), [0], none⟩,
    ⟨some 32, .fad 1 (.t 31), [1], none⟩,
    ⟨some 33, .load false 1 (.t 32), [2], none⟩,
    ⟨some 34, .mov none (.t 0), [], none⟩,
    ⟨some 35, .nilc (.t 34), [4], none⟩,
    ⟨some 36, .fad 0 (.t 35), [5], none⟩,
    ⟨some 37, .load false 1 (.t 36), [6], none⟩,
    ⟨some 38, .mov none (.t 4), [], none⟩,
    ⟨some 39, .ixS 1 (.t 37) (.t 38), [8, 7], none⟩,
    ⟨some 40, .load false 1 (.t 39), [9], none⟩,
    ⟨some 41, .mov none (.t 0), [], none⟩,
    ⟨some 42, .nilc (.t 41), [11], none⟩,
    ⟨some 43, .fad 0 (.t 42), [12], none⟩,
    ⟨some 44, .load false 1 (.t 43), [13], none⟩,
    ⟨some 45, .mov none (.t 5), [], none⟩,
    ⟨some 46, .ixS 1 (.t 44) (.t 45), [15, 14], none⟩,
    ⟨some 47, .load false 1 (.t 46), [16], none⟩,
    ⟨some 48, .callv (.t 33) [(false, .t 40), (false, .t 47)], [17, 10, 3], none⟩,
    ⟨some 49, .un .not (.t 48), [18], none⟩])
  (.cond (.t 49) (.ret) (.skip)))
  (.seq (.region true [⟨some 50, .mov none (.t 0), [], none⟩,
    ⟨some 51, .nilc (.t 50), [0], none⟩,
    ⟨some 52, .fad 0 (.t 51), [1], none⟩,
    ⟨some 53, .load false 1 (.t 52), [2], none⟩,
    ⟨some 54, .mov none (.t 4), [], none⟩,
    ⟨some 55, .mov none (.t 0), [], none⟩,
    ⟨some 56, .nilc (.t 55), [5], none⟩,
    ⟨some 57, .fad 0 (.t 56), [6], none⟩,
    ⟨some 58, .load false 1 (.t 57), [7], none⟩,
    ⟨some 59, .mov none (.t 5), [], none⟩,
    ⟨some 60, .mov none (.t 0), [], none⟩,
    ⟨some 61, .nilc (.t 60), [10], none⟩,
    ⟨some 62, .fad 0 (.t 61), [11], none⟩,
    ⟨some 63, .load false 1 (.t 62), [12], none⟩,
    ⟨some 64, .mov none (.t 5), [], none⟩,
    ⟨some 65, .ixS 1 (.t 63) (.t 64), [14, 13], none⟩,
    ⟨some 66, .load false 1 (.t 65), [15], none⟩,
    ⟨some 67, .mov none (.t 0), [], none⟩,
    ⟨some 68, .nilc (.t 67), [17], none⟩,
    ⟨some 69, .fad 0 (.t 68), [18], none⟩,
    ⟨some 70, .load false 1 (.t 69), [19], none⟩,
    ⟨some 71, .mov none (.t 4), [], none⟩,
    ⟨some 72, .ixS 1 (.t 70) (.t 71), [21, 20], none⟩,
    ⟨some 73, .load false 1 (.t 72), [22], none⟩,
    ⟨some 74, .ixS 1 (.t 53) (.t 54), [23, 16, 8, 4, 3], none⟩,
    ⟨none, .store 1 (.t 74) (.t 66), [24], none⟩,
    ⟨some 75, .ixS 1 (.t 58) (.t 59), [25, 9], none⟩,
    ⟨none, .store 1 (.t 75) (.t 73), [26], none⟩])
  (.region false [⟨some 76, .mov none (.t 5), [], none⟩,
    ⟨some 4, .mov none (.t 76), [], none⟩])))))
def b38 : VCode := .seq (.seq (.region false [⟨some 6, .mov none (.t 0), [], none⟩,
    ⟨some 7, .call 63 [(false, .t 6)], [], none⟩,
    ⟨some 8, .un .not (.t 7), [], none⟩])
  (.cond (.t 8) (.ret) (.skip)))
  (.seq (.region false [⟨some 9, .mov none (.t 0), [], none⟩,
    ⟨some 10, .mov none (.t 0), [], none⟩,
    ⟨some 11, .nilc (.t 10), [], none⟩,
    ⟨some 12, .fad 0 (.t 11), [], none⟩,
    ⟨some 13, .load false 1 (.t 12), [], none⟩,
    ⟨some 14, .mov none (.t 1), [], none⟩,
    ⟨some 15, .mks false 1 [.t 14], [], none⟩,
    ⟨some 16, .blt (.append 1 8) [.t 13, .t 15], [], none⟩,
    ⟨some 17, .nilc (.t 9), [], none⟩,
    ⟨some 18, .fad 0 (.t 17), [], none⟩,
    ⟨none, .store 1 (.t 18) (.t 16), [], none⟩])
  (.seq (.region false [⟨some 19, .mov none (.t 0), [], none⟩,
    ⟨some 20, .nilc (.t 19), [], none⟩,
    ⟨some 21, .fad 0 (.t 20), [], none⟩,
    ⟨some 22, .load false 1 (.t 21), [], none⟩,
    ⟨some 23, .blt .len [.t 22], [], none⟩,
    ⟨some 24, .bin .sub (.t 23) (.k (.one (.iv (.int .i64 1)))), [], none⟩,
    ⟨some 4, .mov none (.t 24), [], none⟩])
  (.block 0 (.loop false [0, 4] l38_0))))
def v38 : VFn := ⟨2, 77, [], b38⟩

theorem c38 : chkFn Try.prog 38 v38 = true := by kernel_rfl

/- (*scholia/sorted.Heap[int]).Pop -/
def b39 : VCode := .seq (.region false [⟨some 2, .mov none (.k (.one (.iv (.int .i64 0)))), [], none⟩,
    ⟨some 3, .mov none (.k (.one (.iv (.bool false)))), [], none⟩])
  (.seq (.region false [⟨some 4, .mov none (.k (.one (.iv (.int .i64 0)))), [], none⟩])
  (.seq (.seq (.region false [⟨some 7, .mov none (.t 0), [], none⟩,
    ⟨some 8, .call 40 [(false, .t 7)], [], none⟩,
    ⟨some 9, .bin .eql (.t 8) (.k (.one (.iv (.int .i64 0)))), [], none⟩])
  (.cond (.t 9) (.seq (.region false [⟨some 10, .mov none (.t 4), [], none⟩,
    ⟨some 2, .mov none (.t 10), [], none⟩,
    ⟨some 3, .mov none (.k (.one (.iv (.bool false)))), [], none⟩])
  (.ret)) (.skip)))
  (.seq (.region false [⟨some 11, .mov none (.t 0), [], none⟩,
    ⟨some 12, .nilc (.t 11), [], none⟩,
    ⟨some 13, .fad 0 (.t 12), [], none⟩,
    ⟨some 14, .load false 1 (.t 13), [], none⟩,
    ⟨some 15, .ixS 1 (.t 14) (.k (.one (.iv (.int .i64 0)))), [], none⟩,
    ⟨some 16, .load false 1 (.t 15), [], none⟩,
    ⟨some 5, .mov none (.t 16), [], none⟩])
  (.seq (.region false [⟨some 17, .mov none (.t 0), [], none⟩,
    ⟨some 18, .nilc (.t 17), [], none⟩,
    ⟨some 19, .fad 0 (.t 18), [], none⟩,
    ⟨some 20, .load false 1 (.t 19), [], none⟩,
    ⟨some 21, .blt .len [.t 20], [], none⟩,
    ⟨some 22, .bin .sub (.t 21) (.k (.one (.iv (.int .i64 1)))), [], none⟩,
    ⟨some 6, .mov none (.t 22), [], none⟩])
  (.seq (.region true [⟨some 23, .mov none (.t 0), [], none⟩,
    ⟨some 24, .nilc (.t 23), [0], none⟩,
    ⟨some 25, .fad 0 (.t 24), [1], none⟩,
    ⟨some 26, .load false 1 (.t 25), [2], none⟩,
    ⟨some 27, .mov none (.t 0), [], none⟩,
    ⟨some 28, .nilc (.t 27), [4], none⟩,
    ⟨some 29, .fad 0 (.t 28), [5], none⟩,
    ⟨some 30, .load false 1 (.t 29), [6], none⟩,
    ⟨some 31, .mov none (.t 6), [], none⟩,
    ⟨some 32, .ixS 1 (.t 30) (.t 31), [8, 7], none⟩,
    ⟨some 33, .load false 1 (.t 32), [9], none⟩,
    ⟨some 34, .ixS 1 (.t 26) (.k (.one (.iv (.int .i64 0)))), [10, 3], none⟩,
    ⟨none, .store 1 (.t 34) (.t 33), [11], none⟩])
  (.seq (.region false [⟨some 35, .mov none (.t 0), [], none⟩,
    ⟨some 36, .mov none (.t 0), [], none⟩,
    ⟨some 37, .nilc (.t 36), [], none⟩,
    ⟨some 38, .fad 0 (.t 37), [], none⟩,
    ⟨some 39, .load false 1 (.t 38), [], none⟩,
    ⟨some 40, .mov none (.t 6), [], none⟩,
    ⟨some 41, .mov none (.t 6), [], none⟩,
    ⟨some 42, .bin .add (.t 41) (.k (.one (.iv (.int .i64 1)))), [], none⟩,
    ⟨some 43, .call 42 [(true, .t 39), (false, .t 40), (false, .t 42)], [], none⟩,
    ⟨some 44, .nilc (.t 35), [], none⟩,
    ⟨some 45, .fad 0 (.t 44), [], none⟩,
    ⟨none, .store 1 (.t 45) (.t 43), [], none⟩])
  (.seq (.region false [⟨some 46, .mov none (.t 0), [], none⟩,
    ⟨some 47, .call 64 [(false, .t 46)], [], none⟩])
  (.seq (.region false [⟨some 48, .mov none (.t 5), [], none⟩,
    ⟨some 2, .mov none (.t 48), [], none⟩,
    ⟨some 3, .mov none (.k (.one (.iv (.bool true)))), [], none⟩])
  (.ret)))))))))
def v39 : VFn := ⟨1, 49, [.t 2, .t 3], b39⟩

theorem c39 : chkFn Try.prog 39 v39 = true := by kernel_rfl

/- (*scholia/sorted.Heap[int]).Len -/
def b40 : VCode := .seq (.region false [⟨some 2, .mov none (.k (.one (.iv (.int .i64 0)))), [], none⟩])
  (.seq (.seq (.region false [⟨some 3, .mov none (.t 0), [], none⟩,
    ⟨some 4, .eqs .eql .ptr (.t 3) (.k (.one (.iv .nilp))), [], none⟩])
  (.cond (.t 4) (.seq (.region false [⟨some 2, .mov none (.k (.one (.iv (.int .i64 0)))), [], none⟩])
  (.ret)) (.skip)))
  (.seq (.region false [⟨some 5, .mov none (.t 0), [], none⟩,
    ⟨some 6, .nilc (.t 5), [], none⟩,
    ⟨some 7, .fad 0 (.t 6), [], none⟩,
    ⟨some 8, .load false 1 (.t 7), [], none⟩,
    ⟨some 9, .blt .len [.t 8], [], none⟩,
    ⟨some 2, .mov none (.t 9), [], none⟩])
  (.ret)))
def v40 : VFn := ⟨1, 10, [.t 2], b40⟩

theorem c40 : chkFn Try.prog 40 v40 = true := by kernel_rfl

/- slices.Index[[]int,int] -/
def l41_0 : VCode := .seq (.region false [⟨some 9, .bin .lss (.t 8) (.t 7), [], none⟩])
  (.seq (.cond (.t 9) (.skip) (.exit 0))
  (.seq (.block 1 (.seq (.region false [⟨some 10, .mov none (.t 8), [], none⟩,
    ⟨some 5, .mov none (.t 10), [], none⟩])
  (.seq (.region false [⟨some 11, .mov none (.t 1), [], none⟩,
    ⟨some 12, .mov none (.t 0), [], none⟩,
    ⟨some 13, .mov none (.t 5), [], none⟩,
    ⟨some 14, .ixS 1 (.t 12) (.t 13), [], none⟩,
    ⟨some 15, .load false 1 (.t 14), [], none⟩,
    ⟨some 16, .bin .eql (.t 11) (.t 15), [], none⟩])
  (.cond (.t 16) (.seq (.region false [⟨some 17, .mov none (.t 5), [], none⟩,
    ⟨some 4, .mov none (.t 17), [], none⟩])
  (.ret)) (.skip)))))
  (.region false [⟨some 18, .bin .add (.t 8) (.k (.one (.iv (.int .i64 1)))), [], none⟩,
    ⟨some 8, .mov none (.t 18), [], none⟩])))
def b41 : VCode := .seq (.region false [⟨some 4, .mov none (.k (.one (.iv (.int .i64 0)))), [], none⟩])
  (.seq (.seq (.region false [⟨some 6, .mov none (.t 0), [], none⟩,
    ⟨some 7, .blt .len [.t 6], [], none⟩,
    ⟨some 8, .mov none (.k (.one (.iv (.int .i64 0)))), [], none⟩])
  (.block 0 (.loop false [0, 1, 7, 8] l41_0)))
  (.seq (.region false [⟨some 4, .mov none (.k (.one (.iv (.int .i64 (-1))))), [], none⟩])
  (.ret)))
def v41 : VFn := ⟨2, 19, [.t 4], b41⟩

theorem c41 : chkFn Try.prog 41 v41 = true := by kernel_rfl

/- slices.Delete[[]int,int] -/
def b42 : VCode := .seq (.region false [⟨some 6, .mov none (.k (.one (.iv (.sl true 0 [])))), [], none⟩])
  (.seq (.region false [⟨some 8, .mov none (.t 0), [], none⟩,
    ⟨some 9, .mov none (.t 1), [], none⟩,
    ⟨some 10, .mov none (.t 2), [], none⟩,
    ⟨some 11, .mov none (.t 0), [], none⟩,
    ⟨some 12, .blt .len [.t 11], [], none⟩,
    ⟨some 13, .slU 1 (.t 8) (some (.t 9)) (some (.t 10)) (some (.t 12)), [], none⟩])
  (.seq (.seq (.region false [⟨some 14, .mov none (.t 1), [], none⟩,
    ⟨some 15, .mov none (.t 2), [], none⟩,
    ⟨some 16, .bin .eql (.t 14) (.t 15), [], none⟩])
  (.cond (.t 16) (.seq (.region false [⟨some 17, .mov none (.t 0), [], none⟩,
    ⟨some 6, .mov none (.t 17), [], none⟩])
  (.ret)) (.skip)))
  (.seq (.region false [⟨some 18, .mov none (.t 0), [], none⟩,
    ⟨some 19, .blt .len [.t 18], [], none⟩,
    ⟨some 7, .mov none (.t 19), [], none⟩])
  (.seq (.region true [⟨some 20, .mov none (.t 0), [], none⟩,
    ⟨some 21, .mov none (.t 1), [], none⟩,
    ⟨some 22, .slS 1 (.t 20) none (some (.t 21)) none, [1, 0], none⟩,
    ⟨some 23, .mov none (.t 0), [], none⟩,
    ⟨some 24, .mov none (.t 2), [], none⟩,
    ⟨some 25, .slS 1 (.t 23) (some (.t 24)) none none, [4, 3], none⟩,
    ⟨some 26, .blt (.append 1 8) [.t 22, .t 25], [5, 2], none⟩,
    ⟨some 0, .mov none (.t 26), [6], none⟩])
  (.seq (.region false [⟨some 27, .mov none (.t 0), [], none⟩,
    ⟨some 28, .mov none (.t 0), [], none⟩,
    ⟨some 29, .blt .len [.t 28], [], none⟩,
    ⟨some 30, .mov none (.t 7), [], none⟩,
    ⟨some 31, .slS 1 (.t 27) (some (.t 29)) (some (.t 30)) none, [], none⟩,
    ⟨none, .blt (.clear [(.int .i64 0)]) [.t 31], [], none⟩])
  (.seq (.region false [⟨some 32, .mov none (.t 0), [], none⟩,
    ⟨some 6, .mov none (.t 32), [], none⟩])
  (.ret)))))))
def v42 : VFn := ⟨3, 33, [.t 6], b42⟩

theorem c42 : chkFn Try.prog 42 v42 = true := by kernel_rfl

/- scholia/scholiaref06.key -/
def b44 : VCode := .seq (.region false [⟨some 2, .mov none (.k (.one (.iv (.int .i64 0)))), [], none⟩])
  (.seq (.region false [⟨some 3, .mov none (.t 0), [], none⟩,
    ⟨some 4, .bin .rem (.t 3) (.k (.one (.iv (.int .i64 10)))), [], none⟩,
    ⟨some 5, .bin .add (.t 4) (.k (.one (.iv (.int .i64 10)))), [], none⟩,
    ⟨some 6, .bin .rem (.t 5) (.k (.one (.iv (.int .i64 10)))), [], none⟩,
    ⟨some 2, .mov none (.t 6), [], none⟩])
  (.ret))
def v44 : VFn := ⟨1, 7, [.t 2], b44⟩

theorem c44 : chkFn Try.prog 44 v44 = true := by kernel_rfl

/- scholia/sorted.NewHeap[scholia/sorted.head[int]] -/
def b45 : VCode := .seq (.region false [⟨some 2, .mov none (.k (.one (.iv .nilp))), [], none⟩])
  (.seq (.region false [⟨some 3, .mov none (.t 0), [], none⟩,
    ⟨some 4, .build [.fresh 3, .iv (.niln)] [(1, 1, .t 3)], [], none⟩,
    ⟨some 5, .box (.t 4), [], none⟩,
    ⟨some 2, .mov none (.t 5), [], none⟩])
  (.ret))
def v45 : VFn := ⟨1, 6, [.t 2], b45⟩

theorem c45 : chkFn Try.prog 45 v45 = true := by kernel_rfl

/- scholia/sorted.Merge[int]$1 -/
def b46 : VCode := .seq (.region false [⟨some 3, .box (.t 0), [], none⟩,
    ⟨some 4, .box (.t 1), [], none⟩,
    ⟨some 5, .mov none (.k (.one (.iv (.bool false)))), [], none⟩])
  (.seq (.region false [⟨some 6, .load false 1 (.t 2), [], none⟩,
    ⟨some 7, .fad 0 (.t 3), [], none⟩,
    ⟨some 8, .load false 1 (.t 7), [], none⟩,
    ⟨some 9, .fad 0 (.t 4), [], none⟩,
    ⟨some 10, .load false 1 (.t 9), [], none⟩,
    ⟨some 11, .callv (.t 6) [(false, .t 8), (false, .t 10)], [], none⟩,
    ⟨some 12, .mov none (.t 11), [], none⟩,
    ⟨some 13, .load false 1 (.t 2), [], some (12, false)⟩,
    ⟨some 14, .fad 0 (.t 4), [], some (12, false)⟩,
    ⟨some 15, .load false 1 (.t 14), [], some (12, false)⟩,
    ⟨some 16, .fad 0 (.t 3), [], some (12, false)⟩,
    ⟨some 17, .load false 1 (.t 16), [], some (12, false)⟩,
    ⟨some 18, .callv (.t 13) [(false, .t 15), (false, .t 17)], [], some (12, false)⟩,
    ⟨some 19, .un .not (.t 18), [], some (12, false)⟩,
    ⟨some 20, .mov none (.t 19), [], some (12, false)⟩,
    ⟨some 21, .fad 1 (.t 3), [], some (20, true)⟩,
    ⟨some 22, .load false 1 (.t 21), [], some (20, true)⟩,
    ⟨some 23, .fad 1 (.t 4), [], some (20, true)⟩,
    ⟨some 24, .load false 1 (.t 23), [], some (20, true)⟩,
    ⟨some 25, .bin .lss (.t 22) (.t 24), [], some (20, true)⟩,
    ⟨some 26, .pick (.t 20) (.t 25) (.k (.one (.iv (.bool false)))), [], some (12, false)⟩,
    ⟨some 27, .pick (.t 12) (.k (.one (.iv (.bool true)))) (.t 26), [], none⟩,
    ⟨some 5, .mov none (.t 27), [], none⟩])
  (.ret))
def v46 : VFn := ⟨3, 28, [.t 5], b46⟩

theorem c46 : chkFn Try.prog 46 v46 = true := by kernel_rfl

/- (*scholia/sorted.Heap[scholia/sorted.head[int]]).Push -/
def l47_0 : VCode := .seq (.seq (.region false [⟨some 25, .mov none (.t 4), [], none⟩,
    ⟨some 26, .bin .gtr (.t 25) (.k (.one (.iv (.int .i64 0)))), [], none⟩])
  (.cond (.t 26) (.skip) (.exit 0)))
  (.block 1 (.seq (.region false [⟨some 27, .mov none (.t 4), [], none⟩,
    ⟨some 28, .bin .sub (.t 27) (.k (.one (.iv (.int .i64 1)))), [], none⟩,
    ⟨some 29, .bin .quo (.t 28) (.k (.one (.iv (.int .i64 2)))), [], none⟩,
    ⟨some 5, .mov none (.t 29), [], none⟩])
  (.seq (.seq (.region true [⟨some 30, .mov none (.t 0), [], none⟩,
    ⟨some 31, .nilc (.t 30), [0], none⟩,
    ⟨some 32, .fad 1 (.t 31), [1], none⟩,
    ⟨some 33, .load false 1 (.t 32), [2], none⟩,
    ⟨some 34, .mov none (.t 0), [], none⟩,
    ⟨some 35, .nilc (.t 34), [4], none⟩,
    ⟨some 36, .fad 0 (.t 35), [5], none⟩,
    ⟨some 37, .load false 1 (.t 36), [6], none⟩,
    ⟨some 38, .mov none (.t 4), [], none⟩,
    ⟨some 39, .ixS 3 (.t 37) (.t 38), [8, 7], none⟩,
    ⟨some 40, .load true 3 (.t 39), [9], none⟩,
    ⟨some 41, .mov none (.t 0), [], none⟩,
    ⟨some 42, .nilc (.t 41), [11], none⟩,
    ⟨some 43, .fad 0 (.t 42), [12], none⟩,
    ⟨some 44, .load false 1 (.t 43), [13], none⟩,
    ⟨some 45, .mov none (.t 5), [], none⟩,
    ⟨some 46, .ixS 3 (.t 44) (.t 45), [15, 14], none⟩,
    ⟨some 47, .load true 3 (.t 46), [16], none⟩,
    ⟨some 48, .callv (.t 33) [(false, .t 40), (false, .t 47)], [17, 10, 3], none⟩,
    ⟨some 49, .un .not (.t 48), [18], none⟩])
  (.cond (.t 49) (.ret) (.skip)))
  (.seq (.region true [⟨some 50, .mov none (.t 0), [], none⟩,
    ⟨some 51, .nilc (.t 50), [0], none⟩,
    ⟨some 52, .fad 0 (.t 51), [1], none⟩,
    ⟨some 53, .load false 1 (.t 52), [2], none⟩,
    ⟨some 54, .mov none (.t 4), [], none⟩,
    ⟨some 55, .mov none (.t 0), [], none⟩,
    ⟨some 56, .nilc (.t 55), [5], none⟩,
    ⟨some 57, .fad 0 (.t 56), [6], none⟩,
    ⟨some 58, .load false 1 (.t 57), [7], none⟩,
    ⟨some 59, .mov none (.t 5), [], none⟩,
    ⟨some 60, .mov none (.t 0), [], none⟩,
    ⟨some 61, .nilc (.t 60), [10], none⟩,
    ⟨some 62, .fad 0 (.t 61), [11], none⟩,
    ⟨some 63, .load false 1 (.t 62), [12], none⟩,
    ⟨some 64, .mov none (.t 5), [], none⟩,
    ⟨some 65, .ixS 3 (.t 63) (.t 64), [14, 13], none⟩,
    ⟨some 66, .load true 3 (.t 65), [15], none⟩,
    ⟨some 67, .mov none (.t 0), [], none⟩,
    ⟨some 68, .nilc (.t 67), [17], none⟩,
    ⟨some 69, .fad 0 (.t 68), [18], none⟩,
    ⟨some 70, .load false 1 (.t 69), [19], none⟩,
    ⟨some 71, .mov none (.t 4), [], none⟩,
    ⟨some 72, .ixS 3 (.t 70) (.t 71), [21, 20], none⟩,
    ⟨some 73, .load true 3 (.t 72), [22], none⟩,
    ⟨some 74, .ixS 3 (.t 53) (.t 54), [23, 16, 8, 4, 3], none⟩,
    ⟨none, .store 3 (.t 74) (.t 66), [24], none⟩,
    ⟨some 75, .ixS 3 (.t 58) (.t 59), [25, 9], none⟩,
    ⟨none, .store 3 (.t 75) (.t 73), [26], none⟩])
  (.region false [⟨some 76, .mov none (.t 5), [], none⟩,
    ⟨some 4, .mov none (.t 76), [], none⟩])))))
def b47 : VCode := .seq (.region false [⟨some 3, .box (.t 1), [], none⟩])
  (.seq (.seq (.region false [⟨some 6, .mov none (.t 0), [], none⟩,
    ⟨some 7, .call 67 [(false, .t 6)], [], none⟩,
    ⟨some 8, .un .not (.t 7), [], none⟩])
  (.cond (.t 8) (.ret) (.skip)))
  (.seq (.region true [⟨some 9, .mov none (.t 0), [], none⟩,
    ⟨some 10, .mov none (.t 0), [], none⟩,
    ⟨some 11, .nilc (.t 10), [1], none⟩,
    ⟨some 12, .fad 0 (.t 11), [2], none⟩,
    ⟨some 13, .load false 1 (.t 12), [3], none⟩,
    ⟨some 14, .load true 3 (.t 3), [], none⟩,
    ⟨some 15, .mks false 3 [.t 14], [5], none⟩,
    ⟨some 16, .blt (.append 3 40) [.t 13, .t 15], [6, 4], none⟩,
    ⟨some 17, .nilc (.t 9), [7, 0], none⟩,
    ⟨some 18, .fad 0 (.t 17), [8], none⟩,
    ⟨none, .store 1 (.t 18) (.t 16), [9], none⟩])
  (.seq (.region false [⟨some 19, .mov none (.t 0), [], none⟩,
    ⟨some 20, .nilc (.t 19), [], none⟩,
    ⟨some 21, .fad 0 (.t 20), [], none⟩,
    ⟨some 22, .load false 1 (.t 21), [], none⟩,
    ⟨some 23, .blt .len [.t 22], [], none⟩,
    ⟨some 24, .bin .sub (.t 23) (.k (.one (.iv (.int .i64 1)))), [], none⟩,
    ⟨some 4, .mov none (.t 24), [], none⟩])
  (.block 0 (.loop false [0, 4] l47_0)))))
def v47 : VFn := ⟨2, 77, [], b47⟩

theorem c47 : chkFn Try.prog 47 v47 = true := by kernel_rfl

/- (*scholia/sorted.Heap[scholia/sorted.head[int]]).Pop -/
def b48 : VCode := .seq (.region false [⟨some 2, .new [.iv (.int .i64 0), .iv (.int .i64 0), .iv (.sl true 0 [])], [], none⟩,
    ⟨some 3, .mov none (.k (.one (.iv (.bool false)))), [], none⟩])
  (.seq (.region false [⟨some 4, .new [.iv (.int .i64 0), .iv (.int .i64 0), .iv (.sl true 0 [])], [], none⟩])
  (.seq (.seq (.region false [⟨some 7, .mov none (.t 0), [], none⟩,
    ⟨some 8, .call 68 [(false, .t 7)], [], none⟩,
    ⟨some 9, .bin .eql (.t 8) (.k (.one (.iv (.int .i64 0)))), [], none⟩])
  (.cond (.t 9) (.seq (.region false [⟨some 10, .load true 3 (.t 4), [], none⟩,
    ⟨none, .store 3 (.t 2) (.t 10), [], none⟩,
    ⟨some 3, .mov none (.k (.one (.iv (.bool false)))), [], none⟩])
  (.ret)) (.skip)))
  (.seq (.region false [⟨some 11, .mov none (.t 0), [], none⟩,
    ⟨some 12, .nilc (.t 11), [], none⟩,
    ⟨some 13, .fad 0 (.t 12), [], none⟩,
    ⟨some 14, .load false 1 (.t 13), [], none⟩,
    ⟨some 15, .ixS 3 (.t 14) (.k (.one (.iv (.int .i64 0)))), [], none⟩,
    ⟨some 16, .load true 3 (.t 15), [], none⟩,
    ⟨some 5, .new [.iv (.int .i64 0), .iv (.int .i64 0), .iv (.sl true 0 [])], [], none⟩,
    ⟨none, .store 3 (.t 5) (.t 16), [], none⟩])
  (.seq (.region false [⟨some 17, .mov none (.t 0), [], none⟩,
    ⟨some 18, .nilc (.t 17), [], none⟩,
    ⟨some 19, .fad 0 (.t 18), [], none⟩,
    ⟨some 20, .load false 1 (.t 19), [], none⟩,
    ⟨some 21, .blt .len [.t 20], [], none⟩,
    ⟨some 22, .bin .sub (.t 21) (.k (.one (.iv (.int .i64 1)))), [], none⟩,
    ⟨some 6, .mov none (.t 22), [], none⟩])
  (.seq (.region true [⟨some 23, .mov none (.t 0), [], none⟩,
    ⟨some 24, .nilc (.t 23), [0], none⟩,
    ⟨some 25, .fad 0 (.t 24), [1], none⟩,
    ⟨some 26, .load false 1 (.t 25), [2], none⟩,
    ⟨some 27, .mov none (.t 0), [], none⟩,
    ⟨some 28, .nilc (.t 27), [4], none⟩,
    ⟨some 29, .fad 0 (.t 28), [5], none⟩,
    ⟨some 30, .load false 1 (.t 29), [6], none⟩,
    ⟨some 31, .mov none (.t 6), [], none⟩,
    ⟨some 32, .ixS 3 (.t 30) (.t 31), [8, 7], none⟩,
    ⟨some 33, .load true 3 (.t 32), [9], none⟩,
    ⟨some 34, .ixS 3 (.t 26) (.k (.one (.iv (.int .i64 0)))), [10, 3], none⟩,
    ⟨none, .store 3 (.t 34) (.t 33), [11], none⟩])
  (.seq (.region false [⟨some 35, .mov none (.t 0), [], none⟩,
    ⟨some 36, .mov none (.t 0), [], none⟩,
    ⟨some 37, .nilc (.t 36), [], none⟩,
    ⟨some 38, .fad 0 (.t 37), [], none⟩,
    ⟨some 39, .load false 1 (.t 38), [], none⟩,
    ⟨some 40, .mov none (.t 6), [], none⟩,
    ⟨some 41, .mov none (.t 6), [], none⟩,
    ⟨some 42, .bin .add (.t 41) (.k (.one (.iv (.int .i64 1)))), [], none⟩,
    ⟨some 43, .call 69 [(true, .t 39), (false, .t 40), (false, .t 42)], [], none⟩,
    ⟨some 44, .nilc (.t 35), [], none⟩,
    ⟨some 45, .fad 0 (.t 44), [], none⟩,
    ⟨none, .store 1 (.t 45) (.t 43), [], none⟩])
  (.seq (.region false [⟨some 46, .mov none (.t 0), [], none⟩,
    ⟨some 47, .call 70 [(false, .t 46)], [], none⟩])
  (.seq (.region false [⟨some 48, .load true 3 (.t 5), [], none⟩,
    ⟨none, .store 3 (.t 2) (.t 48), [], none⟩,
    ⟨some 3, .mov none (.k (.one (.iv (.bool true)))), [], none⟩])
  (.ret)))))))))
def v48 : VFn := ⟨1, 49, [.c 2 true 3, .t 3], b48⟩

theorem c48 : chkFn Try.prog 48 v48 = true := by kernel_rfl

/- scholia/sorted.NewBest[int]$1 -/
def b49 : VCode := .seq (.region false [⟨some 5, .mov none (.k (.one (.iv (.bool false)))), [], none⟩])
  (.seq (.region false [⟨some 6, .load false 1 (.t 2), [], none⟩,
    ⟨some 7, .mov none (.t 1), [], none⟩,
    ⟨some 8, .mov none (.t 0), [], none⟩,
    ⟨some 9, .callv (.t 6) [(false, .t 7), (false, .t 8)], [], none⟩,
    ⟨some 5, .mov none (.t 9), [], none⟩])
  (.ret))
def v49 : VFn := ⟨3, 10, [.t 5], b49⟩

theorem c49 : chkFn Try.prog 49 v49 = true := by kernel_rfl

/- slices.Reverse[[]int,int] -/
def l50_0 : VCode := .seq (.seq (.region false [⟨some 7, .mov none (.t 2), [], none⟩,
    ⟨some 8, .mov none (.t 3), [], none⟩,
    ⟨some 9, .bin .lss (.t 7) (.t 8), [], none⟩])
  (.cond (.t 9) (.skip) (.exit 0)))
  (.seq (.block 1 (.region true [⟨some 14, .mov none (.t 0), [], none⟩,
    ⟨some 15, .mov none (.t 2), [], none⟩,
    ⟨some 16, .mov none (.t 0), [], none⟩,
    ⟨some 17, .mov none (.t 3), [], none⟩,
    ⟨some 18, .mov none (.t 0), [], none⟩,
    ⟨some 19, .mov none (.t 3), [], none⟩,
    ⟨some 20, .ixS 1 (.t 18) (.t 19), [5, 4], none⟩,
    ⟨some 21, .load false 1 (.t 20), [6], none⟩,
    ⟨some 22, .mov none (.t 0), [], none⟩,
    ⟨some 23, .mov none (.t 2), [], none⟩,
    ⟨some 24, .ixS 1 (.t 22) (.t 23), [9, 8], none⟩,
    ⟨some 25, .load false 1 (.t 24), [10], none⟩,
    ⟨some 26, .ixS 1 (.t 14) (.t 15), [11, 7, 1, 0], none⟩,
    ⟨none, .store 1 (.t 26) (.t 21), [12], none⟩,
    ⟨some 27, .ixS 1 (.t 16) (.t 17), [13, 3, 2], none⟩,
    ⟨none, .store 1 (.t 27) (.t 25), [14], none⟩]))
  (.region false [⟨some 10, .mov none (.t 2), [], none⟩,
    ⟨some 11, .bin .add (.t 10) (.k (.one (.iv (.int .i64 1)))), [], none⟩,
    ⟨some 12, .mov none (.t 3), [], none⟩,
    ⟨some 13, .bin .sub (.t 12) (.k (.one (.iv (.int .i64 1)))), [], none⟩,
    ⟨some 2, .mov none (.t 11), [], none⟩,
    ⟨some 3, .mov none (.t 13), [], none⟩]))
def b50 : VCode := .seq (.region false [⟨some 4, .mov none (.t 0), [], none⟩,
    ⟨some 5, .blt .len [.t 4], [], none⟩,
    ⟨some 6, .bin .sub (.t 5) (.k (.one (.iv (.int .i64 1)))), [], none⟩,
    ⟨some 2, .mov none (.k (.one (.iv (.int .i64 0)))), [], none⟩,
    ⟨some 3, .mov none (.t 6), [], none⟩])
  (.block 0 (.loop false [0, 2, 3] l50_0))
def v50 : VFn := ⟨1, 28, [], b50⟩

theorem c50 : chkFn Try.prog 50 v50 = true := by kernel_rfl

/- (*scholia/sorted.Heap[int]).made -/
def b63 : VCode := .seq (.region false [⟨some 2, .mov none (.k (.one (.iv (.bool false)))), [], none⟩])
  (.seq (.region false [⟨some 3, .mov none (.t 0), [], none⟩,
    ⟨some 4, .eqs .neq .ptr (.t 3) (.k (.one (.iv .nilp))), [], none⟩,
    ⟨some 5, .mov none (.t 4), [], none⟩,
    ⟨some 6, .mov none (.t 0), [], some (5, true)⟩,
    ⟨some 7, .nilc (.t 6), [], some (5, true)⟩,
    ⟨some 8, .fad 1 (.t 7), [], some (5, true)⟩,
    ⟨some 9, .load false 1 (.t 8), [], some (5, true)⟩,
    ⟨some 10, .eqs .neq .func (.t 9) (.k (.one (.iv .niln))), [], some (5, true)⟩,
    ⟨some 11, .pick (.t 5) (.t 10) (.k (.one (.iv (.bool false)))), [], none⟩,
    ⟨some 2, .mov none (.t 11), [], none⟩])
  (.ret))
def v63 : VFn := ⟨1, 12, [.t 2], b63⟩

theorem c63 : chkFn Try.prog 63 v63 = true := by kernel_rfl

/- (*scholia/sorted.Heap[int]).sink -/
def l64_1 : VCode := .seq (.seq (.region false [⟨some 9, .mov none (.t 4), [], none⟩,
    ⟨some 10, .mov none (.t 2), [], none⟩,
    ⟨some 11, .bin .mul (.k (.one (.iv (.int .i64 2)))) (.t 10), [], none⟩,
    ⟨some 12, .bin .add (.t 11) (.k (.one (.iv (.int .i64 2)))), [], none⟩,
    ⟨some 13, .bin .leq (.t 9) (.t 12), [], none⟩,
    ⟨some 14, .mov none (.t 13), [], none⟩,
    ⟨some 15, .mov none (.t 4), [], some (14, true)⟩,
    ⟨some 16, .mov none (.t 0), [], some (14, true)⟩,
    ⟨some 17, .nilc (.t 16), [], some (14, true)⟩,
    ⟨some 18, .fad 0 (.t 17), [], some (14, true)⟩,
    ⟨some 19, .load false 1 (.t 18), [], some (14, true)⟩,
    ⟨some 20, .blt .len [.t 19], [], some (14, true)⟩,
    ⟨some 21, .bin .lss (.t 15) (.t 20), [], some (14, true)⟩,
    ⟨some 22, .pick (.t 14) (.t 21) (.k (.one (.iv (.bool false)))), [], none⟩])
  (.cond (.t 22) (.skip) (.exit 2)))
  (.seq (.block 3 (.seq (.region true [⟨some 25, .mov none (.t 0), [], none⟩,
    ⟨some 26, .nilc (.t 25), [0], none⟩,
    ⟨some 27, .fad 1 (.t 26), [1], none⟩,
    ⟨some 28, .load false 1 (.t 27), [2], none⟩,
    ⟨some 29, .mov none (.t 0), [], none⟩,
    ⟨some 30, .nilc (.t 29), [4], none⟩,
    ⟨some 31, .fad 0 (.t 30), [5], none⟩,
    ⟨some 32, .load false 1 (.t 31), [6], none⟩,
    ⟨some 33, .mov none (.t 4), [], none⟩,
    ⟨some 34, .ixS 1 (.t 32) (.t 33), [8, 7], none⟩,
    ⟨some 35, .load false 1 (.t 34), [9], none⟩,
    ⟨some 36, .mov none (.t 0), [], none⟩,
    ⟨some 37, .nilc (.t 36), [11], none⟩,
    ⟨some 38, .fad 0 (.t 37), [12], none⟩,
    ⟨some 39, .load false 1 (.t 38), [13], none⟩,
    ⟨some 40, .mov none (.t 3), [], none⟩,
    ⟨some 41, .ixS 1 (.t 39) (.t 40), [15, 14], none⟩,
    ⟨some 42, .load false 1 (.t 41), [16], none⟩,
    ⟨some 43, .callv (.t 28) [(false, .t 35), (false, .t 42)], [17, 10, 3], none⟩])
  (.cond (.t 43) (.region false [⟨some 44, .mov none (.t 4), [], none⟩,
    ⟨some 3, .mov none (.t 44), [], none⟩]) (.skip))))
  (.region false [⟨some 23, .mov none (.t 4), [], none⟩,
    ⟨some 24, .bin .add (.t 23) (.k (.one (.iv (.int .i64 1)))), [], none⟩,
    ⟨some 4, .mov none (.t 24), [], none⟩]))
def l64_0 : VCode := .block 1 (.seq (.region false [⟨some 5, .mov none (.t 2), [], none⟩,
    ⟨some 3, .mov none (.t 5), [], none⟩])
  (.seq (.seq (.region false [⟨some 6, .mov none (.t 2), [], none⟩,
    ⟨some 7, .bin .mul (.k (.one (.iv (.int .i64 2)))) (.t 6), [], none⟩,
    ⟨some 8, .bin .add (.t 7) (.k (.one (.iv (.int .i64 1)))), [], none⟩,
    ⟨some 4, .mov none (.t 8), [], none⟩])
  (.block 2 (.loop false [0, 2, 3, 4] l64_1)))
  (.seq (.seq (.region false [⟨some 45, .mov none (.t 3), [], none⟩,
    ⟨some 46, .mov none (.t 2), [], none⟩,
    ⟨some 47, .bin .eql (.t 45) (.t 46), [], none⟩])
  (.cond (.t 47) (.ret) (.skip)))
  (.seq (.region true [⟨some 48, .mov none (.t 0), [], none⟩,
    ⟨some 49, .nilc (.t 48), [0], none⟩,
    ⟨some 50, .fad 0 (.t 49), [1], none⟩,
    ⟨some 51, .load false 1 (.t 50), [2], none⟩,
    ⟨some 52, .mov none (.t 2), [], none⟩,
    ⟨some 53, .mov none (.t 0), [], none⟩,
    ⟨some 54, .nilc (.t 53), [5], none⟩,
    ⟨some 55, .fad 0 (.t 54), [6], none⟩,
    ⟨some 56, .load false 1 (.t 55), [7], none⟩,
    ⟨some 57, .mov none (.t 3), [], none⟩,
    ⟨some 58, .mov none (.t 0), [], none⟩,
    ⟨some 59, .nilc (.t 58), [10], none⟩,
    ⟨some 60, .fad 0 (.t 59), [11], none⟩,
    ⟨some 61, .load false 1 (.t 60), [12], none⟩,
    ⟨some 62, .mov none (.t 3), [], none⟩,
    ⟨some 63, .ixS 1 (.t 61) (.t 62), [14, 13], none⟩,
    ⟨some 64, .load false 1 (.t 63), [15], none⟩,
    ⟨some 65, .mov none (.t 0), [], none⟩,
    ⟨some 66, .nilc (.t 65), [17], none⟩,
    ⟨some 67, .fad 0 (.t 66), [18], none⟩,
    ⟨some 68, .load false 1 (.t 67), [19], none⟩,
    ⟨some 69, .mov none (.t 2), [], none⟩,
    ⟨some 70, .ixS 1 (.t 68) (.t 69), [21, 20], none⟩,
    ⟨some 71, .load false 1 (.t 70), [22], none⟩,
    ⟨some 72, .ixS 1 (.t 51) (.t 52), [23, 16, 8, 4, 3], none⟩,
    ⟨none, .store 1 (.t 72) (.t 64), [24], none⟩,
    ⟨some 73, .ixS 1 (.t 56) (.t 57), [25, 9], none⟩,
    ⟨none, .store 1 (.t 73) (.t 71), [26], none⟩])
  (.region false [⟨some 74, .mov none (.t 3), [], none⟩,
    ⟨some 2, .mov none (.t 74), [], none⟩])))))
def b64 : VCode := .seq (.region false [⟨some 2, .mov none (.k (.one (.iv (.int .i64 0)))), [], none⟩])
  (.block 0 (.loop false [0, 2] l64_0))
def v64 : VFn := ⟨1, 75, [], b64⟩

theorem c64 : chkFn Try.prog 64 v64 = true := by kernel_rfl

/- (*scholia/sorted.Heap[scholia/sorted.head[int]]).made -/
def b67 : VCode := .seq (.region false [⟨some 2, .mov none (.k (.one (.iv (.bool false)))), [], none⟩])
  (.seq (.region false [⟨some 3, .mov none (.t 0), [], none⟩,
    ⟨some 4, .eqs .neq .ptr (.t 3) (.k (.one (.iv .nilp))), [], none⟩,
    ⟨some 5, .mov none (.t 4), [], none⟩,
    ⟨some 6, .mov none (.t 0), [], some (5, true)⟩,
    ⟨some 7, .nilc (.t 6), [], some (5, true)⟩,
    ⟨some 8, .fad 1 (.t 7), [], some (5, true)⟩,
    ⟨some 9, .load false 1 (.t 8), [], some (5, true)⟩,
    ⟨some 10, .eqs .neq .func (.t 9) (.k (.one (.iv .niln))), [], some (5, true)⟩,
    ⟨some 11, .pick (.t 5) (.t 10) (.k (.one (.iv (.bool false)))), [], none⟩,
    ⟨some 2, .mov none (.t 11), [], none⟩])
  (.ret))
def v67 : VFn := ⟨1, 12, [.t 2], b67⟩

theorem c67 : chkFn Try.prog 67 v67 = true := by kernel_rfl

/- (*scholia/sorted.Heap[scholia/sorted.head[int]]).Len -/
def b68 : VCode := .seq (.region false [⟨some 2, .mov none (.k (.one (.iv (.int .i64 0)))), [], none⟩])
  (.seq (.seq (.region false [⟨some 3, .mov none (.t 0), [], none⟩,
    ⟨some 4, .eqs .eql .ptr (.t 3) (.k (.one (.iv .nilp))), [], none⟩])
  (.cond (.t 4) (.seq (.region false [⟨some 2, .mov none (.k (.one (.iv (.int .i64 0)))), [], none⟩])
  (.ret)) (.skip)))
  (.seq (.region false [⟨some 5, .mov none (.t 0), [], none⟩,
    ⟨some 6, .nilc (.t 5), [], none⟩,
    ⟨some 7, .fad 0 (.t 6), [], none⟩,
    ⟨some 8, .load false 1 (.t 7), [], none⟩,
    ⟨some 9, .blt .len [.t 8], [], none⟩,
    ⟨some 2, .mov none (.t 9), [], none⟩])
  (.ret)))
def v68 : VFn := ⟨1, 10, [.t 2], b68⟩

theorem c68 : chkFn Try.prog 68 v68 = true := by kernel_rfl

/- slices.Delete[[]scholia/sorted.head[int],scholia/sorted.head[int]] -/
def b69 : VCode := .seq (.region false [⟨some 6, .mov none (.k (.one (.iv (.sl true 0 [])))), [], none⟩])
  (.seq (.region false [⟨some 8, .mov none (.t 0), [], none⟩,
    ⟨some 9, .mov none (.t 1), [], none⟩,
    ⟨some 10, .mov none (.t 2), [], none⟩,
    ⟨some 11, .mov none (.t 0), [], none⟩,
    ⟨some 12, .blt .len [.t 11], [], none⟩,
    ⟨some 13, .slU 3 (.t 8) (some (.t 9)) (some (.t 10)) (some (.t 12)), [], none⟩])
  (.seq (.seq (.region false [⟨some 14, .mov none (.t 1), [], none⟩,
    ⟨some 15, .mov none (.t 2), [], none⟩,
    ⟨some 16, .bin .eql (.t 14) (.t 15), [], none⟩])
  (.cond (.t 16) (.seq (.region false [⟨some 17, .mov none (.t 0), [], none⟩,
    ⟨some 6, .mov none (.t 17), [], none⟩])
  (.ret)) (.skip)))
  (.seq (.region false [⟨some 18, .mov none (.t 0), [], none⟩,
    ⟨some 19, .blt .len [.t 18], [], none⟩,
    ⟨some 7, .mov none (.t 19), [], none⟩])
  (.seq (.region true [⟨some 20, .mov none (.t 0), [], none⟩,
    ⟨some 21, .mov none (.t 1), [], none⟩,
    ⟨some 22, .slS 3 (.t 20) none (some (.t 21)) none, [1, 0], none⟩,
    ⟨some 23, .mov none (.t 0), [], none⟩,
    ⟨some 24, .mov none (.t 2), [], none⟩,
    ⟨some 25, .slS 3 (.t 23) (some (.t 24)) none none, [4, 3], none⟩,
    ⟨some 26, .blt (.append 3 40) [.t 22, .t 25], [5, 2], none⟩,
    ⟨some 0, .mov none (.t 26), [6], none⟩])
  (.seq (.region false [⟨some 27, .mov none (.t 0), [], none⟩,
    ⟨some 28, .mov none (.t 0), [], none⟩,
    ⟨some 29, .blt .len [.t 28], [], none⟩,
    ⟨some 30, .mov none (.t 7), [], none⟩,
    ⟨some 31, .slS 3 (.t 27) (some (.t 29)) (some (.t 30)) none, [], none⟩,
    ⟨none, .blt (.clear [(.int .i64 0), (.int .i64 0), (.sl true 0 [])]) [.t 31], [], none⟩])
  (.seq (.region false [⟨some 32, .mov none (.t 0), [], none⟩,
    ⟨some 6, .mov none (.t 32), [], none⟩])
  (.ret)))))))
def v69 : VFn := ⟨3, 33, [.t 6], b69⟩

theorem c69 : chkFn Try.prog 69 v69 = true := by kernel_rfl

/- (*scholia/sorted.Heap[scholia/sorted.head[int]]).sink -/
def l70_1 : VCode := .seq (.seq (.region false [⟨some 9, .mov none (.t 4), [], none⟩,
    ⟨some 10, .mov none (.t 2), [], none⟩,
    ⟨some 11, .bin .mul (.k (.one (.iv (.int .i64 2)))) (.t 10), [], none⟩,
    ⟨some 12, .bin .add (.t 11) (.k (.one (.iv (.int .i64 2)))), [], none⟩,
    ⟨some 13, .bin .leq (.t 9) (.t 12), [], none⟩,
    ⟨some 14, .mov none (.t 13), [], none⟩,
    ⟨some 15, .mov none (.t 4), [], some (14, true)⟩,
    ⟨some 16, .mov none (.t 0), [], some (14, true)⟩,
    ⟨some 17, .nilc (.t 16), [], some (14, true)⟩,
    ⟨some 18, .fad 0 (.t 17), [], some (14, true)⟩,
    ⟨some 19, .load false 1 (.t 18), [], some (14, true)⟩,
    ⟨some 20, .blt .len [.t 19], [], some (14, true)⟩,
    ⟨some 21, .bin .lss (.t 15) (.t 20), [], some (14, true)⟩,
    ⟨some 22, .pick (.t 14) (.t 21) (.k (.one (.iv (.bool false)))), [], none⟩])
  (.cond (.t 22) (.skip) (.exit 2)))
  (.seq (.block 3 (.seq (.region true [⟨some 25, .mov none (.t 0), [], none⟩,
    ⟨some 26, .nilc (.t 25), [0], none⟩,
    ⟨some 27, .fad 1 (.t 26), [1], none⟩,
    ⟨some 28, .load false 1 (.t 27), [2], none⟩,
    ⟨some 29, .mov none (.t 0), [], none⟩,
    ⟨some 30, .nilc (.t 29), [4], none⟩,
    ⟨some 31, .fad 0 (.t 30), [5], none⟩,
    ⟨some 32, .load false 1 (.t 31), [6], none⟩,
    ⟨some 33, .mov none (.t 4), [], none⟩,
    ⟨some 34, .ixS 3 (.t 32) (.t 33), [8, 7], none⟩,
    ⟨some 35, .load true 3 (.t 34), [9], none⟩,
    ⟨some 36, .mov none (.t 0), [], none⟩,
    ⟨some 37, .nilc (.t 36), [11], none⟩,
    ⟨some 38, .fad 0 (.t 37), [12], none⟩,
    ⟨some 39, .load false 1 (.t 38), [13], none⟩,
    ⟨some 40, .mov none (.t 3), [], none⟩,
    ⟨some 41, .ixS 3 (.t 39) (.t 40), [15, 14], none⟩,
    ⟨some 42, .load true 3 (.t 41), [16], none⟩,
    ⟨some 43, .callv (.t 28) [(false, .t 35), (false, .t 42)], [17, 10, 3], none⟩])
  (.cond (.t 43) (.region false [⟨some 44, .mov none (.t 4), [], none⟩,
    ⟨some 3, .mov none (.t 44), [], none⟩]) (.skip))))
  (.region false [⟨some 23, .mov none (.t 4), [], none⟩,
    ⟨some 24, .bin .add (.t 23) (.k (.one (.iv (.int .i64 1)))), [], none⟩,
    ⟨some 4, .mov none (.t 24), [], none⟩]))
def l70_0 : VCode := .block 1 (.seq (.region false [⟨some 5, .mov none (.t 2), [], none⟩,
    ⟨some 3, .mov none (.t 5), [], none⟩])
  (.seq (.seq (.region false [⟨some 6, .mov none (.t 2), [], none⟩,
    ⟨some 7, .bin .mul (.k (.one (.iv (.int .i64 2)))) (.t 6), [], none⟩,
    ⟨some 8, .bin .add (.t 7) (.k (.one (.iv (.int .i64 1)))), [], none⟩,
    ⟨some 4, .mov none (.t 8), [], none⟩])
  (.block 2 (.loop false [0, 2, 3, 4] l70_1)))
  (.seq (.seq (.region false [⟨some 45, .mov none (.t 3), [], none⟩,
    ⟨some 46, .mov none (.t 2), [], none⟩,
    ⟨some 47, .bin .eql (.t 45) (.t 46), [], none⟩])
  (.cond (.t 47) (.ret) (.skip)))
  (.seq (.region true [⟨some 48, .mov none (.t 0), [], none⟩,
    ⟨some 49, .nilc (.t 48), [0], none⟩,
    ⟨some 50, .fad 0 (.t 49), [1], none⟩,
    ⟨some 51, .load false 1 (.t 50), [2], none⟩,
    ⟨some 52, .mov none (.t 2), [], none⟩,
    ⟨some 53, .mov none (.t 0), [], none⟩,
    ⟨some 54, .nilc (.t 53), [5], none⟩,
    ⟨some 55, .fad 0 (.t 54), [6], none⟩,
    ⟨some 56, .load false 1 (.t 55), [7], none⟩,
    ⟨some 57, .mov none (.t 3), [], none⟩,
    ⟨some 58, .mov none (.t 0), [], none⟩,
    ⟨some 59, .nilc (.t 58), [10], none⟩,
    ⟨some 60, .fad 0 (.t 59), [11], none⟩,
    ⟨some 61, .load false 1 (.t 60), [12], none⟩,
    ⟨some 62, .mov none (.t 3), [], none⟩,
    ⟨some 63, .ixS 3 (.t 61) (.t 62), [14, 13], none⟩,
    ⟨some 64, .load true 3 (.t 63), [15], none⟩,
    ⟨some 65, .mov none (.t 0), [], none⟩,
    ⟨some 66, .nilc (.t 65), [17], none⟩,
    ⟨some 67, .fad 0 (.t 66), [18], none⟩,
    ⟨some 68, .load false 1 (.t 67), [19], none⟩,
    ⟨some 69, .mov none (.t 2), [], none⟩,
    ⟨some 70, .ixS 3 (.t 68) (.t 69), [21, 20], none⟩,
    ⟨some 71, .load true 3 (.t 70), [22], none⟩,
    ⟨some 72, .ixS 3 (.t 51) (.t 52), [23, 16, 8, 4, 3], none⟩,
    ⟨none, .store 3 (.t 72) (.t 64), [24], none⟩,
    ⟨some 73, .ixS 3 (.t 56) (.t 57), [25, 9], none⟩,
    ⟨none, .store 3 (.t 73) (.t 71), [26], none⟩])
  (.region false [⟨some 74, .mov none (.t 3), [], none⟩,
    ⟨some 2, .mov none (.t 74), [], none⟩])))))
def b70 : VCode := .seq (.region false [⟨some 2, .mov none (.k (.one (.iv (.int .i64 0)))), [], none⟩])
  (.block 0 (.loop false [0, 2] l70_0))
def v70 : VFn := ⟨1, 75, [], b70⟩

theorem c70 : chkFn Try.prog 70 v70 = true := by kernel_rfl

def tab : List (Nat × VFn) := [(3, v3), (4, v4), (9, v9), (10, v10), (11, v11), (12, v12), (13, v13), (14, v14), (15, v15), (16, v16), (17, v17), (18, v18), (37, v37), (38, v38), (39, v39), (40, v40), (41, v41), (42, v42), (44, v44), (45, v45), (46, v46), (47, v47), (48, v48), (49, v49), (50, v50), (63, v63), (64, v64), (67, v67), (68, v68), (69, v69), (70, v70)]

theorem tab_ok : TabOK Try.prog (lookT tab) := tabOK_cons c3 (tabOK_cons c4 (tabOK_cons c9 (tabOK_cons c10 (tabOK_cons c11 (tabOK_cons c12 (tabOK_cons c13 (tabOK_cons c14 (tabOK_cons c15 (tabOK_cons c16 (tabOK_cons c17 (tabOK_cons c18 (tabOK_cons c37 (tabOK_cons c38 (tabOK_cons c39 (tabOK_cons c40 (tabOK_cons c41 (tabOK_cons c42 (tabOK_cons c44 (tabOK_cons c45 (tabOK_cons c46 (tabOK_cons c47 (tabOK_cons c48 (tabOK_cons c49 (tabOK_cons c50 (tabOK_cons c63 (tabOK_cons c64 (tabOK_cons c67 (tabOK_cons c68 (tabOK_cons c69 (tabOK_cons c70 tabOK_nil))))))))))))))))))))))))))))))

def clones : List (Nat × Nat × Nat) := []

theorem clones_ok : chkClones Try.prog clones = true := by kernel_rfl

theorem mixed : Try.prog.follows .mixedOrders = true := by kernel_rfl

theorem pr_ok : PrOK Try.prog (fun _ => clonePr clones) := fun _ _ _ => clonePr_ok mixed clones_ok

theorem pr_mono : PrMono (fun _ => clonePr clones) := const_mono

abbrev Pl (f : Nat) (vs : List FV) (v : FV) (bs : List Blk) : Prop := Plays (lookT tab) (fun _ => clonePr clones) f vs [] (v, bs)

end Go.Proofs.Ytlbmknejhmmjnaa
