/- The code of the functions that a statement reaches, as V-code, checked against the program. Printed by a program. -/
import Derived.Test.YtlbmknejhmmjnaaV3
import Derived.Test.YtlbmknejhmmjnaaChecked
import Derived.KernelRfl
set_option maxRecDepth 100000
namespace Go.Proofs.Ytlbmknejhmmjnaa
open Go GoV
abbrev o1 (d : Nat) (op : VOp) : VO := ⟨some d, op, [], none⟩
abbrev oM (d s : Nat) : VO := ⟨some d, .mov none (.t s), [], none⟩
abbrev oL (d s : Nat) : VO := ⟨some d, .load false 1 (.t s), [], none⟩
abbrev oF (d k s : Nat) : VO := ⟨some d, .fad k (.t s), [], none⟩
abbrev oG (d : Nat) (op : VOp) (g : Nat) (b : Bool) : VO := ⟨some d, op, [], some (g, b)⟩
abbrev kI (x : Int) : Od := .k (.one (.iv (.int .i64 x)))
abbrev kB (x : Bool) : Od := .k (.one (.iv (.bool x)))
abbrev vI : LV := .iv (.int .i64 0)
abbrev vS : LV := .iv (.sl true 0 [])
abbrev kN : Od := .k (.one vS)

/- scholia/scholialaw06.SortedHeaps -/
def l8_0 : VCode := .seq (.region false [o1 20 (.bin .lss (.t 19) (.t 18))]) (.seq (.cond (.t 20) (.skip) (.exit 0)) (.seq (.block 1 (.seq (.region false [oM 21 19, o1 22 (.ixS 1 (.t 17) (.t 19)), oL 23 22, oM 7 21, oM 8 23]) (.seq (.seq (.region false [oM 24 7, o1 25 (.bin .geq (.t 24) (kI 200))]) (.cond (.t 25) (.exit 0) (.skip))) (.seq (.region false [oM 26 5, oM 27 8, o1 28 (.call 38 [(false, .t 26), (false, .t 27)])]) (.seq (.region false [oM 29 6, oM 30 8, o1 31 (.mks false 1 [.t 30]), o1 32 (.blt (.append 1 8) [.t 29, .t 31]), oM 6 32]) (.seq (.region false [oM 33 7, oM 34 1, o1 35 (.blt .len [.t 34]), o1 36 (.bin .lss (.t 33) (.t 35)), oM 37 36, oG 38 (.mov none (.t 1)) 37 true, oG 39 (.mov none (.t 7)) 37 true, oG 40 (.ixS 1 (.t 38) (.t 39)) 37 true, oG 41 (.load false 1 (.t 40)) 37 true, oG 42 (.bin .and (.t 41) (kI 1)) 37 true, oG 43 (.bin .eql (.t 42) (kI 1)) 37 true, o1 44 (.pick (.t 37) (.t 43) (kB false))]) (.cond (.t 44) (.seq (.region false [oM 46 5, o1 47 (.call 39 [(false, .t 46)]), oM 45 47, o1 48 (.ext 0 (.t 45)), o1 49 (.ext 1 (.t 45)), oM 9 48, oM 10 49]) (.seq (.seq (.region false [oM 50 10, o1 51 (.un .not (.t 50)), oM 52 51, oG 53 (.mov none (.t 6)) 52 false, oG 54 (.call 9 [(true, .t 53)]) 52 false, oG 55 (.ixS 1 (.t 54) (kI 0)) 52 false, oG 56 (.load false 1 (.t 55)) 52 false, oG 57 (.mov none (.t 9)) 52 false, oG 58 (.call 12 [(false, .t 56), (false, .t 57)]) 52 false, o1 59 (.pick (.t 52) (kB true) (.t 58))]) (.cond (.t 59) (.seq (.region false [o1 4 (.mov none (kB false))]) (.ret)) (.skip))) (.seq (.region false [oM 60 6, oM 61 9, o1 62 (.call 41 [(false, .t 60), (false, .t 61)]), oM 11 62]) (.seq (.seq (.region false [oM 63 11, o1 64 (.bin .lss (.t 63) (kI 0))]) (.cond (.t 64) (.seq (.region false [o1 4 (.mov none (kB false))]) (.ret)) (.skip))) (.region false [oM 65 6, oM 66 11, oM 67 11, o1 68 (.bin .add (.t 67) (kI 1)), o1 69 (.call 42 [(true, .t 65), (false, .t 66), (false, .t 68)]), oM 6 69]))))) (.skip)))))))) (.region false [o1 70 (.bin .add (.t 19) (kI 1)), oM 19 70])))
def l8_1 : VCode := .block 3 (.seq (.region false [oM 72 5, o1 73 (.call 39 [(false, .t 72)]), oM 71 73, o1 74 (.ext 0 (.t 71)), o1 75 (.ext 1 (.t 71)), oM 13 74, oM 14 75]) (.seq (.seq (.region false [oM 76 14, o1 77 (.un .not (.t 76)), oM 78 77, oG 79 (.mov none (.t 12)) 78 false, oG 80 (.blt .len [.t 79]) 78 false, oG 81 (.bin .gtr (.t 80) (kI 200)) 78 false, o1 82 (.pick (.t 78) (kB true) (.t 81))]) (.cond (.t 82) (.exit 2) (.skip))) (.region false [oM 83 12, oM 84 13, o1 85 (.mks false 1 [.t 84]), o1 86 (.blt (.append 1 8) [.t 83, .t 85]), oM 12 86])))
def b8 : VCode := .seq (.region false [o1 4 (.mov none (kB false))]) (.seq (.region false [o1 16 (.call 37 [(false, .k (.one (.iv (.fn 12))))]), oM 5 16]) (.seq (.region false [o1 6 (.mov (some 1) kN)]) (.seq (.seq (.region false [oM 17 0, o1 18 (.blt .len [.t 17]), o1 19 (.mov none (kI 0))]) (.block 0 (.loop false [1, 5, 6, 17, 18, 19] l8_0))) (.seq (.region false [o1 12 (.mov (some 1) kN)]) (.seq (.block 2 (.loop false [5, 6, 12] l8_1)) (.seq (.region false [oM 87 12, o1 88 (.call 17 [(true, .t 87)]), oM 15 88]) (.seq (.region false [oM 89 12, o1 90 (.call 43 [(true, .t 89)])]) (.seq (.region false [oM 91 6, o1 92 (.call 43 [(true, .t 91)])]) (.seq (.region false [oM 93 15, o1 94 (.call 21 [(false, .t 93)]), oM 95 94, oG 96 (.mov none (.t 12)) 95 true, oG 97 (.mov none (.t 6)) 95 true, oG 98 (.call 10 [(false, .t 96), (false, .t 97)]) 95 true, o1 99 (.pick (.t 95) (.t 98) (kB false)), oM 100 99, oG 101 (.mov none (.t 5)) 100 true, oG 102 (.call 40 [(false, .t 101)]) 100 true, oG 103 (.bin .eql (.t 102) (kI 0)) 100 true, o1 104 (.pick (.t 100) (.t 103) (kB false)), oM 105 104, oG 106 (.call 13 []) 105 true, o1 107 (.pick (.t 105) (.t 106) (kB false)), oM 4 107]) (.ret))))))))))
def v8 : VFn := ⟨2, 108, [.t 4], b8⟩

theorem c8 : chkFn Try.prog 8 v8 = true := by kernel_rfl

/- scholia/scholiaref06.Sort -/
def l9_1 : VCode := .seq (.region false [o1 13 (.bin .lss (.t 12) (.t 11))]) (.seq (.cond (.t 13) (.skip) (.exit 2)) (.seq (.block 3 (.seq (.region false [o1 14 (.ixS 1 (.t 10) (.t 12)), oL 15 14, oM 6 15]) (.seq (.region false [oM 16 6, o1 17 (.call 44 [(false, .t 16)]), oM 18 4, o1 19 (.bin .eql (.t 17) (.t 18))]) (.cond (.t 19) (.region false [oM 20 3, oM 21 6, o1 22 (.mks false 1 [.t 21]), o1 23 (.blt (.append 1 8) [.t 20, .t 22]), oM 3 23]) (.skip))))) (.region false [o1 24 (.bin .add (.t 12) (kI 1)), oM 12 24])))
def l9_0 : VCode := .seq (.region false [o1 8 (.bin .lss (.t 7) (kI 10))]) (.seq (.cond (.t 8) (.skip) (.exit 0)) (.seq (.block 1 (.seq (.region false [oM 9 7, oM 4 9]) (.seq (.region false [oM 10 0, o1 11 (.blt .len [.t 10]), o1 12 (.mov none (kI 0))]) (.block 2 (.loop false [0, 3, 4, 7, 10, 11, 12] l9_1))))) (.region false [o1 25 (.bin .add (.t 7) (kI 1)), oM 7 25])))
def b9 : VCode := .seq (.region false [o1 2 (.mov none kN)]) (.seq (.region false [o1 3 (.mov (some 1) kN)]) (.seq (.seq (.region false [o1 7 (.mov none (kI 0))]) (.block 0 (.loop false [0, 3, 7] l9_0))) (.seq (.region false [oM 26 3, oM 2 26]) (.ret))))
def v9 : VFn := ⟨1, 27, [.t 2], b9⟩

theorem c9 : chkFn Try.prog 9 v9 = true := by kernel_rfl

/- slices.Equal[[]int,int] -/
def l10_0 : VCode := .seq (.region false [o1 14 (.bin .lss (.t 13) (.t 12))]) (.seq (.cond (.t 14) (.skip) (.exit 0)) (.seq (.block 1 (.seq (.region false [oM 15 13, oM 5 15]) (.seq (.region true [oM 16 0, oM 17 5, ⟨some 18, .ixS 1 (.t 16) (.t 17), [1, 0], none⟩, ⟨some 19, .load false 1 (.t 18), [2], none⟩, oM 20 1, oM 21 5, ⟨some 22, .ixS 1 (.t 20) (.t 21), [5, 4], none⟩, ⟨some 23, .load false 1 (.t 22), [6], none⟩, ⟨some 24, .bin .neq (.t 19) (.t 23), [7, 3], none⟩]) (.cond (.t 24) (.seq (.region false [o1 4 (.mov none (kB false))]) (.ret)) (.skip))))) (.region false [o1 25 (.bin .add (.t 13) (kI 1)), oM 13 25])))
def b10 : VCode := .seq (.region false [o1 4 (.mov none (kB false))]) (.seq (.seq (.region false [oM 6 0, o1 7 (.blt .len [.t 6]), oM 8 1, o1 9 (.blt .len [.t 8]), o1 10 (.bin .neq (.t 7) (.t 9))]) (.cond (.t 10) (.seq (.region false [o1 4 (.mov none (kB false))]) (.ret)) (.skip))) (.seq (.seq (.region false [oM 11 0, o1 12 (.blt .len [.t 11]), o1 13 (.mov none (kI 0))]) (.block 0 (.loop false [0, 1, 12, 13] l10_0))) (.seq (.region false [o1 4 (.mov none (kB true))]) (.ret))))
def v10 : VFn := ⟨2, 26, [.t 4], b10⟩

theorem c10 : chkFn Try.prog 10 v10 = true := by kernel_rfl

/- scholia/sorted.Merge[int] -/
def l11_0 : VCode := .seq (.region false [o1 18 (.bin .lss (.t 17) (.t 16))]) (.seq (.cond (.t 18) (.skip) (.exit 0)) (.seq (.block 1 (.seq (.region false [oM 19 17, o1 20 (.ixS 1 (.t 15) (.t 17)), oL 21 20, oM 6 19, oM 7 21]) (.seq (.region false [oM 22 7, o1 23 (.blt .len [.t 22]), o1 24 (.bin .gtr (.t 23) (kI 0))]) (.cond (.t 24) (.region true [oM 25 5, oM 26 7, ⟨some 27, .ixS 1 (.t 26) (kI 0), [1], none⟩, ⟨some 28, .load false 1 (.t 27), [2], none⟩, oM 29 6, oM 30 7, ⟨some 31, .slS 1 (.t 30) (some (kI 1)) none none, [5], none⟩, ⟨some 32, .build [vI, vI, vS] [(0, 1, .t 28), (1, 1, .t 29), (2, 1, .t 31)], [6, 4, 3], none⟩, ⟨some 33, .call 47 [(false, .t 25), (false, .t 32)], [7, 0], none⟩]) (.skip))))) (.region false [o1 34 (.bin .add (.t 17) (kI 1)), oM 17 34])))
def l11_1 : VCode := .block 3 (.seq (.region false [oM 36 5, o1 37 (.call 48 [(false, .t 36)]), oM 35 37, o1 38 (.ext 0 (.t 35)), o1 39 (.ext 1 (.t 35)), o1 9 (.new [vI, vI, vS]), ⟨none, .store 3 (.t 9) (.t 38), [], none⟩, oM 10 39]) (.seq (.seq (.region false [oM 40 10, o1 41 (.un .not (.t 40))]) (.cond (.t 41) (.seq (.region false [oM 42 8, oM 4 42]) (.ret)) (.skip))) (.seq (.region false [oM 43 8, oF 44 0 9, oL 45 44, o1 46 (.mks false 1 [.t 45]), o1 47 (.blt (.append 1 8) [.t 43, .t 46]), oM 8 47]) (.seq (.region false [oF 48 2 9, oL 49 48, o1 50 (.blt .len [.t 49]), o1 51 (.bin .gtr (.t 50) (kI 0))]) (.cond (.t 51) (.region true [oM 52 5, oF 53 2 9, ⟨some 54, .load false 1 (.t 53), [1], none⟩, ⟨some 55, .ixS 1 (.t 54) (kI 0), [2], none⟩, ⟨some 56, .load false 1 (.t 55), [3], none⟩, oF 57 1 9, ⟨some 58, .load false 1 (.t 57), [5], none⟩, oF 59 2 9, ⟨some 60, .load false 1 (.t 59), [7], none⟩, ⟨some 61, .slS 1 (.t 60) (some (kI 1)) none none, [8], none⟩, ⟨some 62, .build [vI, vI, vS] [(0, 1, .t 56), (1, 1, .t 58), (2, 1, .t 61)], [9, 6, 4], none⟩, ⟨some 63, .call 47 [(false, .t 52), (false, .t 62)], [10, 0], none⟩]) (.skip))))))
def b11 : VCode := .seq (.region false [o1 2 (.box (.t 0)), o1 4 (.mov none kN)]) (.seq (.seq (.region false [oL 11 2, o1 12 (.eqs .eql .func (.t 11) (.k (.one (.iv .niln))))]) (.cond (.t 12) (.seq (.region false [o1 4 (.mov none kN)]) (.ret)) (.skip))) (.seq (.region false [o1 13 (.mkf 46 [.t 2]), o1 14 (.call 45 [(false, .t 13)]), oM 5 14]) (.seq (.seq (.region false [oM 15 1, o1 16 (.blt .len [.t 15]), o1 17 (.mov none (kI 0))]) (.block 0 (.loop false [5, 15, 16, 17] l11_0))) (.seq (.region false [o1 8 (.mov (some 1) kN)]) (.block 2 (.loop false [5, 8] l11_1))))))
def v11 : VFn := ⟨2, 64, [.t 4], b11⟩

theorem c11 : chkFn Try.prog 11 v11 = true := by kernel_rfl

/- scholia/scholiaref06.Less -/
def b12 : VCode := .seq (.region false [o1 4 (.mov none (kB false))]) (.seq (.region false [oM 5 0, o1 6 (.call 44 [(false, .t 5)]), oM 7 1, o1 8 (.call 44 [(false, .t 7)]), o1 9 (.bin .lss (.t 6) (.t 8)), oM 4 9]) (.ret))
def v12 : VFn := ⟨2, 10, [.t 4], b12⟩

theorem c12 : chkFn Try.prog 12 v12 = true := by kernel_rfl

/- scholia/scholialaw06.awake -/
def b13 : VCode := .seq (.region false [o1 0 (.mov none (kB false))]) (.seq (.region false [o1 2 (.mks false 1 [.k (.one (.iv (.int .i64 1))), kI 4]), o1 3 (.mks false 1 [.k (.one (.iv (.int .i64 2))), kI 4]), o1 4 (.mks false 1 [.k (.one (vI))]), o1 5 (.mks false 1 [.t 2, .t 3, .t 4]), o1 6 (.call 11 [(false, .k (.one (.iv (.fn 12)))), (false, .t 5)]), oM 1 6]) (.seq (.region false [oM 7 1, o1 8 (.mks false 1 [.k (.one (vI)), kI 1, kI 2, kI 4, kI 4]), o1 9 (.call 10 [(false, .t 7), (false, .t 8)]), oM 0 9]) (.ret)))
def v13 : VFn := ⟨0, 10, [.t 0], b13⟩

theorem c13 : chkFn Try.prog 13 v13 = true := by kernel_rfl

/- scholia/scholiaref06.Keys -/
def l17_0 : VCode := .seq (.region false [o1 9 (.bin .lss (.t 8) (.t 7))]) (.seq (.cond (.t 9) (.skip) (.exit 0)) (.seq (.block 1 (.seq (.region false [o1 10 (.ixS 1 (.t 6) (.t 8)), oL 11 10, oM 5 11]) (.region false [oM 12 3, oM 13 5, o1 14 (.call 44 [(false, .t 13)]), o1 15 (.mks false 1 [.t 14]), o1 16 (.blt (.append 1 8) [.t 12, .t 15]), oM 3 16]))) (.region false [o1 17 (.bin .add (.t 8) (kI 1)), oM 8 17])))
def b17 : VCode := .seq (.region false [o1 2 (.mov none kN)]) (.seq (.region false [o1 3 (.mov (some 1) kN)]) (.seq (.seq (.region false [oM 6 0, o1 7 (.blt .len [.t 6]), o1 8 (.mov none (kI 0))]) (.block 0 (.loop false [3, 6, 7, 8] l17_0))) (.seq (.region false [oM 18 3, oM 2 18]) (.ret))))
def v17 : VFn := ⟨1, 19, [.t 2], b17⟩

theorem c17 : chkFn Try.prog 17 v17 = true := by kernel_rfl

/- slices.IsSorted[[]int,int] -/
def l21_0 : VCode := .seq (.seq (.region false [oM 7 3, o1 8 (.bin .gtr (.t 7) (kI 0))]) (.cond (.t 8) (.skip) (.exit 0))) (.seq (.block 1 (.seq (.region true [oM 11 0, oM 12 3, ⟨some 13, .ixS 1 (.t 11) (.t 12), [1, 0], none⟩, ⟨some 14, .load false 1 (.t 13), [2], none⟩, oM 15 0, oM 16 3, ⟨some 17, .bin .sub (.t 16) (kI 1), [5], none⟩, ⟨some 18, .ixS 1 (.t 15) (.t 17), [6, 4], none⟩, ⟨some 19, .load false 1 (.t 18), [7], none⟩, ⟨some 20, .call 52 [(false, .t 14), (false, .t 19)], [8, 3], none⟩]) (.cond (.t 20) (.seq (.region false [o1 2 (.mov none (kB false))]) (.ret)) (.skip)))) (.region false [oM 9 3, o1 10 (.bin .sub (.t 9) (kI 1)), oM 3 10]))
def b21 : VCode := .seq (.region false [o1 2 (.mov none (kB false))]) (.seq (.seq (.region false [oM 4 0, o1 5 (.blt .len [.t 4]), o1 6 (.bin .sub (.t 5) (kI 1)), oM 3 6]) (.block 0 (.loop false [0, 3] l21_0))) (.seq (.region false [o1 2 (.mov none (kB true))]) (.ret)))
def v21 : VFn := ⟨1, 21, [.t 2], b21⟩

theorem c21 : chkFn Try.prog 21 v21 = true := by kernel_rfl

/- scholia/sorted.NewHeap[int] -/
def b37 : VCode := .seq (.region false [o1 2 (.mov none (.k (.one (.iv .nilp))))]) (.seq (.region false [oM 3 0, o1 4 (.build [.fresh 1, .iv (.niln)] [(1, 1, .t 3)]), o1 5 (.box (.t 4)), oM 2 5]) (.ret))
def v37 : VFn := ⟨1, 6, [.t 2], b37⟩

theorem c37 : chkFn Try.prog 37 v37 = true := by kernel_rfl

/- (*scholia/sorted.Heap[int]).Push -/
def l38_0 : VCode := .seq (.seq (.region false [oM 25 4, o1 26 (.bin .gtr (.t 25) (kI 0))]) (.cond (.t 26) (.skip) (.exit 0))) (.block 1 (.seq (.region false [oM 27 4, o1 28 (.bin .sub (.t 27) (kI 1)), o1 29 (.bin .quo (.t 28) (kI 2)), oM 5 29]) (.seq (.seq (.region true [oM 30 0, ⟨some 31, .nilc (.t 30), [0], none⟩, ⟨some 32, .fad 1 (.t 31), [1], none⟩, ⟨some 33, .load false 1 (.t 32), [2], none⟩, oM 34 0, ⟨some 35, .nilc (.t 34), [4], none⟩, ⟨some 36, .fad 0 (.t 35), [5], none⟩, ⟨some 37, .load false 1 (.t 36), [6], none⟩, oM 38 4, ⟨some 39, .ixS 1 (.t 37) (.t 38), [8, 7], none⟩, ⟨some 40, .load false 1 (.t 39), [9], none⟩, oM 41 0, ⟨some 42, .nilc (.t 41), [11], none⟩, ⟨some 43, .fad 0 (.t 42), [12], none⟩, ⟨some 44, .load false 1 (.t 43), [13], none⟩, oM 45 5, ⟨some 46, .ixS 1 (.t 44) (.t 45), [15, 14], none⟩, ⟨some 47, .load false 1 (.t 46), [16], none⟩, ⟨some 48, .callv (.t 33) [(false, .t 40), (false, .t 47)], [17, 10, 3], none⟩, ⟨some 49, .un .not (.t 48), [18], none⟩]) (.cond (.t 49) (.ret) (.skip))) (.seq (.region true [oM 50 0, ⟨some 51, .nilc (.t 50), [0], none⟩, ⟨some 52, .fad 0 (.t 51), [1], none⟩, ⟨some 53, .load false 1 (.t 52), [2], none⟩, oM 54 4, oM 55 0, ⟨some 56, .nilc (.t 55), [5], none⟩, ⟨some 57, .fad 0 (.t 56), [6], none⟩, ⟨some 58, .load false 1 (.t 57), [7], none⟩, oM 59 5, oM 60 0, ⟨some 61, .nilc (.t 60), [10], none⟩, ⟨some 62, .fad 0 (.t 61), [11], none⟩, ⟨some 63, .load false 1 (.t 62), [12], none⟩, oM 64 5, ⟨some 65, .ixS 1 (.t 63) (.t 64), [14, 13], none⟩, ⟨some 66, .load false 1 (.t 65), [15], none⟩, oM 67 0, ⟨some 68, .nilc (.t 67), [17], none⟩, ⟨some 69, .fad 0 (.t 68), [18], none⟩, ⟨some 70, .load false 1 (.t 69), [19], none⟩, oM 71 4, ⟨some 72, .ixS 1 (.t 70) (.t 71), [21, 20], none⟩, ⟨some 73, .load false 1 (.t 72), [22], none⟩, ⟨some 74, .ixS 1 (.t 53) (.t 54), [23, 16, 8, 4, 3], none⟩, ⟨none, .store 1 (.t 74) (.t 66), [24], none⟩, ⟨some 75, .ixS 1 (.t 58) (.t 59), [25, 9], none⟩, ⟨none, .store 1 (.t 75) (.t 73), [26], none⟩]) (.region false [oM 76 5, oM 4 76])))))
def b38 : VCode := .seq (.seq (.region false [oM 6 0, o1 7 (.call 63 [(false, .t 6)]), o1 8 (.un .not (.t 7))]) (.cond (.t 8) (.ret) (.skip))) (.seq (.region false [oM 9 0, oM 10 0, o1 11 (.nilc (.t 10)), oF 12 0 11, oL 13 12, oM 14 1, o1 15 (.mks false 1 [.t 14]), o1 16 (.blt (.append 1 8) [.t 13, .t 15]), o1 17 (.nilc (.t 9)), oF 18 0 17, ⟨none, .store 1 (.t 18) (.t 16), [], none⟩]) (.seq (.region false [oM 19 0, o1 20 (.nilc (.t 19)), oF 21 0 20, oL 22 21, o1 23 (.blt .len [.t 22]), o1 24 (.bin .sub (.t 23) (kI 1)), oM 4 24]) (.block 0 (.loop false [0, 4] l38_0))))
def v38 : VFn := ⟨2, 77, [], b38⟩

theorem c38 : chkFn Try.prog 38 v38 = true := by kernel_rfl

/- (*scholia/sorted.Heap[int]).Pop -/
def b39 : VCode := .seq (.region false [o1 2 (.mov none (kI 0)), o1 3 (.mov none (kB false))]) (.seq (.region false [o1 4 (.mov none (kI 0))]) (.seq (.seq (.region false [oM 7 0, o1 8 (.call 40 [(false, .t 7)]), o1 9 (.bin .eql (.t 8) (kI 0))]) (.cond (.t 9) (.seq (.region false [oM 10 4, oM 2 10, o1 3 (.mov none (kB false))]) (.ret)) (.skip))) (.seq (.region false [oM 11 0, o1 12 (.nilc (.t 11)), oF 13 0 12, oL 14 13, o1 15 (.ixS 1 (.t 14) (kI 0)), oL 16 15, oM 5 16]) (.seq (.region false [oM 17 0, o1 18 (.nilc (.t 17)), oF 19 0 18, oL 20 19, o1 21 (.blt .len [.t 20]), o1 22 (.bin .sub (.t 21) (kI 1)), oM 6 22]) (.seq (.region true [oM 23 0, ⟨some 24, .nilc (.t 23), [0], none⟩, ⟨some 25, .fad 0 (.t 24), [1], none⟩, ⟨some 26, .load false 1 (.t 25), [2], none⟩, oM 27 0, ⟨some 28, .nilc (.t 27), [4], none⟩, ⟨some 29, .fad 0 (.t 28), [5], none⟩, ⟨some 30, .load false 1 (.t 29), [6], none⟩, oM 31 6, ⟨some 32, .ixS 1 (.t 30) (.t 31), [8, 7], none⟩, ⟨some 33, .load false 1 (.t 32), [9], none⟩, ⟨some 34, .ixS 1 (.t 26) (kI 0), [10, 3], none⟩, ⟨none, .store 1 (.t 34) (.t 33), [11], none⟩]) (.seq (.region false [oM 35 0, oM 36 0, o1 37 (.nilc (.t 36)), oF 38 0 37, oL 39 38, oM 40 6, oM 41 6, o1 42 (.bin .add (.t 41) (kI 1)), o1 43 (.call 42 [(true, .t 39), (false, .t 40), (false, .t 42)]), o1 44 (.nilc (.t 35)), oF 45 0 44, ⟨none, .store 1 (.t 45) (.t 43), [], none⟩]) (.seq (.region false [oM 46 0, o1 47 (.call 64 [(false, .t 46)])]) (.seq (.region false [oM 48 5, oM 2 48, o1 3 (.mov none (kB true))]) (.ret)))))))))
def v39 : VFn := ⟨1, 49, [.t 2, .t 3], b39⟩

theorem c39 : chkFn Try.prog 39 v39 = true := by kernel_rfl

/- (*scholia/sorted.Heap[int]).Len -/
def b40 : VCode := .seq (.region false [o1 2 (.mov none (kI 0))]) (.seq (.seq (.region false [oM 3 0, o1 4 (.eqs .eql .ptr (.t 3) (.k (.one (.iv .nilp))))]) (.cond (.t 4) (.seq (.region false [o1 2 (.mov none (kI 0))]) (.ret)) (.skip))) (.seq (.region false [oM 5 0, o1 6 (.nilc (.t 5)), oF 7 0 6, oL 8 7, o1 9 (.blt .len [.t 8]), oM 2 9]) (.ret)))
def v40 : VFn := ⟨1, 10, [.t 2], b40⟩

theorem c40 : chkFn Try.prog 40 v40 = true := by kernel_rfl

/- slices.Index[[]int,int] -/
def l41_0 : VCode := .seq (.region false [o1 9 (.bin .lss (.t 8) (.t 7))]) (.seq (.cond (.t 9) (.skip) (.exit 0)) (.seq (.block 1 (.seq (.region false [oM 10 8, oM 5 10]) (.seq (.region false [oM 11 1, oM 12 0, oM 13 5, o1 14 (.ixS 1 (.t 12) (.t 13)), oL 15 14, o1 16 (.bin .eql (.t 11) (.t 15))]) (.cond (.t 16) (.seq (.region false [oM 17 5, oM 4 17]) (.ret)) (.skip))))) (.region false [o1 18 (.bin .add (.t 8) (kI 1)), oM 8 18])))
def b41 : VCode := .seq (.region false [o1 4 (.mov none (kI 0))]) (.seq (.seq (.region false [oM 6 0, o1 7 (.blt .len [.t 6]), o1 8 (.mov none (kI 0))]) (.block 0 (.loop false [0, 1, 7, 8] l41_0))) (.seq (.region false [o1 4 (.mov none (.k (.one (.iv (.int .i64 (-1))))))]) (.ret)))
def v41 : VFn := ⟨2, 19, [.t 4], b41⟩

theorem c41 : chkFn Try.prog 41 v41 = true := by kernel_rfl

/- slices.Delete[[]int,int] -/
def b42 : VCode := .seq (.region false [o1 6 (.mov none kN)]) (.seq (.region false [oM 8 0, oM 9 1, oM 10 2, oM 11 0, o1 12 (.blt .len [.t 11]), o1 13 (.slU 1 (.t 8) (some (.t 9)) (some (.t 10)) (some (.t 12)))]) (.seq (.seq (.region false [oM 14 1, oM 15 2, o1 16 (.bin .eql (.t 14) (.t 15))]) (.cond (.t 16) (.seq (.region false [oM 17 0, oM 6 17]) (.ret)) (.skip))) (.seq (.region false [oM 18 0, o1 19 (.blt .len [.t 18]), oM 7 19]) (.seq (.region true [oM 20 0, oM 21 1, ⟨some 22, .slS 1 (.t 20) none (some (.t 21)) none, [1, 0], none⟩, oM 23 0, oM 24 2, ⟨some 25, .slS 1 (.t 23) (some (.t 24)) none none, [4, 3], none⟩, ⟨some 26, .blt (.append 1 8) [.t 22, .t 25], [5, 2], none⟩, ⟨some 0, .mov none (.t 26), [6], none⟩]) (.seq (.region false [oM 27 0, oM 28 0, o1 29 (.blt .len [.t 28]), oM 30 7, o1 31 (.slS 1 (.t 27) (some (.t 29)) (some (.t 30)) none), ⟨none, .blt (.clear [(.int .i64 0)]) [.t 31], [], none⟩]) (.seq (.region false [oM 32 0, oM 6 32]) (.ret)))))))
def v42 : VFn := ⟨3, 33, [.t 6], b42⟩

theorem c42 : chkFn Try.prog 42 v42 = true := by kernel_rfl

/- scholia/scholiaref06.key -/
def b44 : VCode := .seq (.region false [o1 2 (.mov none (kI 0))]) (.seq (.region false [oM 3 0, o1 4 (.bin .rem (.t 3) (kI 10)), o1 5 (.bin .add (.t 4) (kI 10)), o1 6 (.bin .rem (.t 5) (kI 10)), oM 2 6]) (.ret))
def v44 : VFn := ⟨1, 7, [.t 2], b44⟩

theorem c44 : chkFn Try.prog 44 v44 = true := by kernel_rfl

/- scholia/sorted.NewHeap[scholia/sorted.head[int]] -/
def b45 : VCode := .seq (.region false [o1 2 (.mov none (.k (.one (.iv .nilp))))]) (.seq (.region false [oM 3 0, o1 4 (.build [.fresh 3, .iv (.niln)] [(1, 1, .t 3)]), o1 5 (.box (.t 4)), oM 2 5]) (.ret))
def v45 : VFn := ⟨1, 6, [.t 2], b45⟩

theorem c45 : chkFn Try.prog 45 v45 = true := by kernel_rfl

/- scholia/sorted.Merge[int]$1 -/
def b46 : VCode := .seq (.region false [o1 3 (.box (.t 0)), o1 4 (.box (.t 1)), o1 5 (.mov none (kB false))]) (.seq (.region false [oL 6 2, oF 7 0 3, oL 8 7, oF 9 0 4, oL 10 9, o1 11 (.callv (.t 6) [(false, .t 8), (false, .t 10)]), oM 12 11, oG 13 (.load false 1 (.t 2)) 12 false, oG 14 (.fad 0 (.t 4)) 12 false, oG 15 (.load false 1 (.t 14)) 12 false, oG 16 (.fad 0 (.t 3)) 12 false, oG 17 (.load false 1 (.t 16)) 12 false, oG 18 (.callv (.t 13) [(false, .t 15), (false, .t 17)]) 12 false, oG 19 (.un .not (.t 18)) 12 false, oG 20 (.mov none (.t 19)) 12 false, oG 21 (.fad 1 (.t 3)) 20 true, oG 22 (.load false 1 (.t 21)) 20 true, oG 23 (.fad 1 (.t 4)) 20 true, oG 24 (.load false 1 (.t 23)) 20 true, oG 25 (.bin .lss (.t 22) (.t 24)) 20 true, oG 26 (.pick (.t 20) (.t 25) (kB false)) 12 false, o1 27 (.pick (.t 12) (kB true) (.t 26)), oM 5 27]) (.ret))
def v46 : VFn := ⟨3, 28, [.t 5], b46⟩

theorem c46 : chkFn Try.prog 46 v46 = true := by kernel_rfl

/- (*scholia/sorted.Heap[scholia/sorted.head[int]]).Push -/
def l47_0 : VCode := .seq (.seq (.region false [oM 25 4, o1 26 (.bin .gtr (.t 25) (kI 0))]) (.cond (.t 26) (.skip) (.exit 0))) (.block 1 (.seq (.region false [oM 27 4, o1 28 (.bin .sub (.t 27) (kI 1)), o1 29 (.bin .quo (.t 28) (kI 2)), oM 5 29]) (.seq (.seq (.region true [oM 30 0, ⟨some 31, .nilc (.t 30), [0], none⟩, ⟨some 32, .fad 1 (.t 31), [1], none⟩, ⟨some 33, .load false 1 (.t 32), [2], none⟩, oM 34 0, ⟨some 35, .nilc (.t 34), [4], none⟩, ⟨some 36, .fad 0 (.t 35), [5], none⟩, ⟨some 37, .load false 1 (.t 36), [6], none⟩, oM 38 4, ⟨some 39, .ixS 3 (.t 37) (.t 38), [8, 7], none⟩, ⟨some 40, .load true 3 (.t 39), [9], none⟩, oM 41 0, ⟨some 42, .nilc (.t 41), [11], none⟩, ⟨some 43, .fad 0 (.t 42), [12], none⟩, ⟨some 44, .load false 1 (.t 43), [13], none⟩, oM 45 5, ⟨some 46, .ixS 3 (.t 44) (.t 45), [15, 14], none⟩, ⟨some 47, .load true 3 (.t 46), [16], none⟩, ⟨some 48, .callv (.t 33) [(false, .t 40), (false, .t 47)], [17, 10, 3], none⟩, ⟨some 49, .un .not (.t 48), [18], none⟩]) (.cond (.t 49) (.ret) (.skip))) (.seq (.region true [oM 50 0, ⟨some 51, .nilc (.t 50), [0], none⟩, ⟨some 52, .fad 0 (.t 51), [1], none⟩, ⟨some 53, .load false 1 (.t 52), [2], none⟩, oM 54 4, oM 55 0, ⟨some 56, .nilc (.t 55), [5], none⟩, ⟨some 57, .fad 0 (.t 56), [6], none⟩, ⟨some 58, .load false 1 (.t 57), [7], none⟩, oM 59 5, oM 60 0, ⟨some 61, .nilc (.t 60), [10], none⟩, ⟨some 62, .fad 0 (.t 61), [11], none⟩, ⟨some 63, .load false 1 (.t 62), [12], none⟩, oM 64 5, ⟨some 65, .ixS 3 (.t 63) (.t 64), [14, 13], none⟩, ⟨some 66, .load true 3 (.t 65), [15], none⟩, oM 67 0, ⟨some 68, .nilc (.t 67), [17], none⟩, ⟨some 69, .fad 0 (.t 68), [18], none⟩, ⟨some 70, .load false 1 (.t 69), [19], none⟩, oM 71 4, ⟨some 72, .ixS 3 (.t 70) (.t 71), [21, 20], none⟩, ⟨some 73, .load true 3 (.t 72), [22], none⟩, ⟨some 74, .ixS 3 (.t 53) (.t 54), [23, 16, 8, 4, 3], none⟩, ⟨none, .store 3 (.t 74) (.t 66), [24], none⟩, ⟨some 75, .ixS 3 (.t 58) (.t 59), [25, 9], none⟩, ⟨none, .store 3 (.t 75) (.t 73), [26], none⟩]) (.region false [oM 76 5, oM 4 76])))))
def b47 : VCode := .seq (.region false [o1 3 (.box (.t 1))]) (.seq (.seq (.region false [oM 6 0, o1 7 (.call 67 [(false, .t 6)]), o1 8 (.un .not (.t 7))]) (.cond (.t 8) (.ret) (.skip))) (.seq (.region true [oM 9 0, oM 10 0, ⟨some 11, .nilc (.t 10), [1], none⟩, ⟨some 12, .fad 0 (.t 11), [2], none⟩, ⟨some 13, .load false 1 (.t 12), [3], none⟩, o1 14 (.load true 3 (.t 3)), ⟨some 15, .mks false 3 [.t 14], [5], none⟩, ⟨some 16, .blt (.append 3 40) [.t 13, .t 15], [6, 4], none⟩, ⟨some 17, .nilc (.t 9), [7, 0], none⟩, ⟨some 18, .fad 0 (.t 17), [8], none⟩, ⟨none, .store 1 (.t 18) (.t 16), [9], none⟩]) (.seq (.region false [oM 19 0, o1 20 (.nilc (.t 19)), oF 21 0 20, oL 22 21, o1 23 (.blt .len [.t 22]), o1 24 (.bin .sub (.t 23) (kI 1)), oM 4 24]) (.block 0 (.loop false [0, 4] l47_0)))))
def v47 : VFn := ⟨2, 77, [], b47⟩

theorem c47 : chkFn Try.prog 47 v47 = true := by kernel_rfl

/- (*scholia/sorted.Heap[scholia/sorted.head[int]]).Pop -/
def b48 : VCode := .seq (.region false [o1 2 (.new [vI, vI, vS]), o1 3 (.mov none (kB false))]) (.seq (.region false [o1 4 (.new [vI, vI, vS])]) (.seq (.seq (.region false [oM 7 0, o1 8 (.call 68 [(false, .t 7)]), o1 9 (.bin .eql (.t 8) (kI 0))]) (.cond (.t 9) (.seq (.region false [o1 10 (.load true 3 (.t 4)), ⟨none, .store 3 (.t 2) (.t 10), [], none⟩, o1 3 (.mov none (kB false))]) (.ret)) (.skip))) (.seq (.region false [oM 11 0, o1 12 (.nilc (.t 11)), oF 13 0 12, oL 14 13, o1 15 (.ixS 3 (.t 14) (kI 0)), o1 16 (.load true 3 (.t 15)), o1 5 (.new [vI, vI, vS]), ⟨none, .store 3 (.t 5) (.t 16), [], none⟩]) (.seq (.region false [oM 17 0, o1 18 (.nilc (.t 17)), oF 19 0 18, oL 20 19, o1 21 (.blt .len [.t 20]), o1 22 (.bin .sub (.t 21) (kI 1)), oM 6 22]) (.seq (.region true [oM 23 0, ⟨some 24, .nilc (.t 23), [0], none⟩, ⟨some 25, .fad 0 (.t 24), [1], none⟩, ⟨some 26, .load false 1 (.t 25), [2], none⟩, oM 27 0, ⟨some 28, .nilc (.t 27), [4], none⟩, ⟨some 29, .fad 0 (.t 28), [5], none⟩, ⟨some 30, .load false 1 (.t 29), [6], none⟩, oM 31 6, ⟨some 32, .ixS 3 (.t 30) (.t 31), [8, 7], none⟩, ⟨some 33, .load true 3 (.t 32), [9], none⟩, ⟨some 34, .ixS 3 (.t 26) (kI 0), [10, 3], none⟩, ⟨none, .store 3 (.t 34) (.t 33), [11], none⟩]) (.seq (.region false [oM 35 0, oM 36 0, o1 37 (.nilc (.t 36)), oF 38 0 37, oL 39 38, oM 40 6, oM 41 6, o1 42 (.bin .add (.t 41) (kI 1)), o1 43 (.call 69 [(true, .t 39), (false, .t 40), (false, .t 42)]), o1 44 (.nilc (.t 35)), oF 45 0 44, ⟨none, .store 1 (.t 45) (.t 43), [], none⟩]) (.seq (.region false [oM 46 0, o1 47 (.call 70 [(false, .t 46)])]) (.seq (.region false [o1 48 (.load true 3 (.t 5)), ⟨none, .store 3 (.t 2) (.t 48), [], none⟩, o1 3 (.mov none (kB true))]) (.ret)))))))))
def v48 : VFn := ⟨1, 49, [.c 2 true 3, .t 3], b48⟩

theorem c48 : chkFn Try.prog 48 v48 = true := by kernel_rfl

/- cmp.Less[int] -/
def b52 : VCode := .seq (.region false [o1 4 (.mov none (kB false))]) (.seq (.region false [oM 5 0, o1 6 (.call 73 [(false, .t 5)]), oM 7 6, oG 8 (.mov none (.t 1)) 7 true, oG 9 (.call 73 [(false, .t 8)]) 7 true, oG 10 (.un .not (.t 9)) 7 true, o1 11 (.pick (.t 7) (.t 10) (kB false)), oM 12 11, oG 13 (.mov none (.t 0)) 12 false, oG 14 (.mov none (.t 1)) 12 false, oG 15 (.bin .lss (.t 13) (.t 14)) 12 false, o1 16 (.pick (.t 12) (kB true) (.t 15)), oM 4 16]) (.ret))
def v52 : VFn := ⟨2, 17, [.t 4], b52⟩

theorem c52 : chkFn Try.prog 52 v52 = true := by kernel_rfl

/- (*scholia/sorted.Heap[int]).made -/
def b63 : VCode := .seq (.region false [o1 2 (.mov none (kB false))]) (.seq (.region false [oM 3 0, o1 4 (.eqs .neq .ptr (.t 3) (.k (.one (.iv .nilp)))), oM 5 4, oG 6 (.mov none (.t 0)) 5 true, oG 7 (.nilc (.t 6)) 5 true, oG 8 (.fad 1 (.t 7)) 5 true, oG 9 (.load false 1 (.t 8)) 5 true, oG 10 (.eqs .neq .func (.t 9) (.k (.one (.iv .niln)))) 5 true, o1 11 (.pick (.t 5) (.t 10) (kB false)), oM 2 11]) (.ret))
def v63 : VFn := ⟨1, 12, [.t 2], b63⟩

theorem c63 : chkFn Try.prog 63 v63 = true := by kernel_rfl

/- (*scholia/sorted.Heap[int]).sink -/
def l64_1 : VCode := .seq (.seq (.region false [oM 9 4, oM 10 2, o1 11 (.bin .mul (kI 2) (.t 10)), o1 12 (.bin .add (.t 11) (kI 2)), o1 13 (.bin .leq (.t 9) (.t 12)), oM 14 13, oG 15 (.mov none (.t 4)) 14 true, oG 16 (.mov none (.t 0)) 14 true, oG 17 (.nilc (.t 16)) 14 true, oG 18 (.fad 0 (.t 17)) 14 true, oG 19 (.load false 1 (.t 18)) 14 true, oG 20 (.blt .len [.t 19]) 14 true, oG 21 (.bin .lss (.t 15) (.t 20)) 14 true, o1 22 (.pick (.t 14) (.t 21) (kB false))]) (.cond (.t 22) (.skip) (.exit 2))) (.seq (.block 3 (.seq (.region true [oM 25 0, ⟨some 26, .nilc (.t 25), [0], none⟩, ⟨some 27, .fad 1 (.t 26), [1], none⟩, ⟨some 28, .load false 1 (.t 27), [2], none⟩, oM 29 0, ⟨some 30, .nilc (.t 29), [4], none⟩, ⟨some 31, .fad 0 (.t 30), [5], none⟩, ⟨some 32, .load false 1 (.t 31), [6], none⟩, oM 33 4, ⟨some 34, .ixS 1 (.t 32) (.t 33), [8, 7], none⟩, ⟨some 35, .load false 1 (.t 34), [9], none⟩, oM 36 0, ⟨some 37, .nilc (.t 36), [11], none⟩, ⟨some 38, .fad 0 (.t 37), [12], none⟩, ⟨some 39, .load false 1 (.t 38), [13], none⟩, oM 40 3, ⟨some 41, .ixS 1 (.t 39) (.t 40), [15, 14], none⟩, ⟨some 42, .load false 1 (.t 41), [16], none⟩, ⟨some 43, .callv (.t 28) [(false, .t 35), (false, .t 42)], [17, 10, 3], none⟩]) (.cond (.t 43) (.region false [oM 44 4, oM 3 44]) (.skip)))) (.region false [oM 23 4, o1 24 (.bin .add (.t 23) (kI 1)), oM 4 24]))
def l64_0 : VCode := .block 1 (.seq (.region false [oM 5 2, oM 3 5]) (.seq (.seq (.region false [oM 6 2, o1 7 (.bin .mul (kI 2) (.t 6)), o1 8 (.bin .add (.t 7) (kI 1)), oM 4 8]) (.block 2 (.loop false [0, 2, 3, 4] l64_1))) (.seq (.seq (.region false [oM 45 3, oM 46 2, o1 47 (.bin .eql (.t 45) (.t 46))]) (.cond (.t 47) (.ret) (.skip))) (.seq (.region true [oM 48 0, ⟨some 49, .nilc (.t 48), [0], none⟩, ⟨some 50, .fad 0 (.t 49), [1], none⟩, ⟨some 51, .load false 1 (.t 50), [2], none⟩, oM 52 2, oM 53 0, ⟨some 54, .nilc (.t 53), [5], none⟩, ⟨some 55, .fad 0 (.t 54), [6], none⟩, ⟨some 56, .load false 1 (.t 55), [7], none⟩, oM 57 3, oM 58 0, ⟨some 59, .nilc (.t 58), [10], none⟩, ⟨some 60, .fad 0 (.t 59), [11], none⟩, ⟨some 61, .load false 1 (.t 60), [12], none⟩, oM 62 3, ⟨some 63, .ixS 1 (.t 61) (.t 62), [14, 13], none⟩, ⟨some 64, .load false 1 (.t 63), [15], none⟩, oM 65 0, ⟨some 66, .nilc (.t 65), [17], none⟩, ⟨some 67, .fad 0 (.t 66), [18], none⟩, ⟨some 68, .load false 1 (.t 67), [19], none⟩, oM 69 2, ⟨some 70, .ixS 1 (.t 68) (.t 69), [21, 20], none⟩, ⟨some 71, .load false 1 (.t 70), [22], none⟩, ⟨some 72, .ixS 1 (.t 51) (.t 52), [23, 16, 8, 4, 3], none⟩, ⟨none, .store 1 (.t 72) (.t 64), [24], none⟩, ⟨some 73, .ixS 1 (.t 56) (.t 57), [25, 9], none⟩, ⟨none, .store 1 (.t 73) (.t 71), [26], none⟩]) (.region false [oM 74 3, oM 2 74])))))
def b64 : VCode := .seq (.region false [o1 2 (.mov none (kI 0))]) (.block 0 (.loop false [0, 2] l64_0))
def v64 : VFn := ⟨1, 75, [], b64⟩

theorem c64 : chkFn Try.prog 64 v64 = true := by kernel_rfl

/- (*scholia/sorted.Heap[scholia/sorted.head[int]]).made -/
def b67 : VCode := .seq (.region false [o1 2 (.mov none (kB false))]) (.seq (.region false [oM 3 0, o1 4 (.eqs .neq .ptr (.t 3) (.k (.one (.iv .nilp)))), oM 5 4, oG 6 (.mov none (.t 0)) 5 true, oG 7 (.nilc (.t 6)) 5 true, oG 8 (.fad 1 (.t 7)) 5 true, oG 9 (.load false 1 (.t 8)) 5 true, oG 10 (.eqs .neq .func (.t 9) (.k (.one (.iv .niln)))) 5 true, o1 11 (.pick (.t 5) (.t 10) (kB false)), oM 2 11]) (.ret))
def v67 : VFn := ⟨1, 12, [.t 2], b67⟩

theorem c67 : chkFn Try.prog 67 v67 = true := by kernel_rfl

/- (*scholia/sorted.Heap[scholia/sorted.head[int]]).Len -/
def b68 : VCode := .seq (.region false [o1 2 (.mov none (kI 0))]) (.seq (.seq (.region false [oM 3 0, o1 4 (.eqs .eql .ptr (.t 3) (.k (.one (.iv .nilp))))]) (.cond (.t 4) (.seq (.region false [o1 2 (.mov none (kI 0))]) (.ret)) (.skip))) (.seq (.region false [oM 5 0, o1 6 (.nilc (.t 5)), oF 7 0 6, oL 8 7, o1 9 (.blt .len [.t 8]), oM 2 9]) (.ret)))
def v68 : VFn := ⟨1, 10, [.t 2], b68⟩

theorem c68 : chkFn Try.prog 68 v68 = true := by kernel_rfl

/- slices.Delete[[]scholia/sorted.head[int],scholia/sorted.head[int]] -/
def b69 : VCode := .seq (.region false [o1 6 (.mov none kN)]) (.seq (.region false [oM 8 0, oM 9 1, oM 10 2, oM 11 0, o1 12 (.blt .len [.t 11]), o1 13 (.slU 3 (.t 8) (some (.t 9)) (some (.t 10)) (some (.t 12)))]) (.seq (.seq (.region false [oM 14 1, oM 15 2, o1 16 (.bin .eql (.t 14) (.t 15))]) (.cond (.t 16) (.seq (.region false [oM 17 0, oM 6 17]) (.ret)) (.skip))) (.seq (.region false [oM 18 0, o1 19 (.blt .len [.t 18]), oM 7 19]) (.seq (.region true [oM 20 0, oM 21 1, ⟨some 22, .slS 3 (.t 20) none (some (.t 21)) none, [1, 0], none⟩, oM 23 0, oM 24 2, ⟨some 25, .slS 3 (.t 23) (some (.t 24)) none none, [4, 3], none⟩, ⟨some 26, .blt (.append 3 40) [.t 22, .t 25], [5, 2], none⟩, ⟨some 0, .mov none (.t 26), [6], none⟩]) (.seq (.region false [oM 27 0, oM 28 0, o1 29 (.blt .len [.t 28]), oM 30 7, o1 31 (.slS 3 (.t 27) (some (.t 29)) (some (.t 30)) none), ⟨none, .blt (.clear [(.int .i64 0), (.int .i64 0), (.sl true 0 [])]) [.t 31], [], none⟩]) (.seq (.region false [oM 32 0, oM 6 32]) (.ret)))))))
def v69 : VFn := ⟨3, 33, [.t 6], b69⟩

theorem c69 : chkFn Try.prog 69 v69 = true := by kernel_rfl

/- (*scholia/sorted.Heap[scholia/sorted.head[int]]).sink -/
def l70_1 : VCode := .seq (.seq (.region false [oM 9 4, oM 10 2, o1 11 (.bin .mul (kI 2) (.t 10)), o1 12 (.bin .add (.t 11) (kI 2)), o1 13 (.bin .leq (.t 9) (.t 12)), oM 14 13, oG 15 (.mov none (.t 4)) 14 true, oG 16 (.mov none (.t 0)) 14 true, oG 17 (.nilc (.t 16)) 14 true, oG 18 (.fad 0 (.t 17)) 14 true, oG 19 (.load false 1 (.t 18)) 14 true, oG 20 (.blt .len [.t 19]) 14 true, oG 21 (.bin .lss (.t 15) (.t 20)) 14 true, o1 22 (.pick (.t 14) (.t 21) (kB false))]) (.cond (.t 22) (.skip) (.exit 2))) (.seq (.block 3 (.seq (.region true [oM 25 0, ⟨some 26, .nilc (.t 25), [0], none⟩, ⟨some 27, .fad 1 (.t 26), [1], none⟩, ⟨some 28, .load false 1 (.t 27), [2], none⟩, oM 29 0, ⟨some 30, .nilc (.t 29), [4], none⟩, ⟨some 31, .fad 0 (.t 30), [5], none⟩, ⟨some 32, .load false 1 (.t 31), [6], none⟩, oM 33 4, ⟨some 34, .ixS 3 (.t 32) (.t 33), [8, 7], none⟩, ⟨some 35, .load true 3 (.t 34), [9], none⟩, oM 36 0, ⟨some 37, .nilc (.t 36), [11], none⟩, ⟨some 38, .fad 0 (.t 37), [12], none⟩, ⟨some 39, .load false 1 (.t 38), [13], none⟩, oM 40 3, ⟨some 41, .ixS 3 (.t 39) (.t 40), [15, 14], none⟩, ⟨some 42, .load true 3 (.t 41), [16], none⟩, ⟨some 43, .callv (.t 28) [(false, .t 35), (false, .t 42)], [17, 10, 3], none⟩]) (.cond (.t 43) (.region false [oM 44 4, oM 3 44]) (.skip)))) (.region false [oM 23 4, o1 24 (.bin .add (.t 23) (kI 1)), oM 4 24]))
def l70_0 : VCode := .block 1 (.seq (.region false [oM 5 2, oM 3 5]) (.seq (.seq (.region false [oM 6 2, o1 7 (.bin .mul (kI 2) (.t 6)), o1 8 (.bin .add (.t 7) (kI 1)), oM 4 8]) (.block 2 (.loop false [0, 2, 3, 4] l70_1))) (.seq (.seq (.region false [oM 45 3, oM 46 2, o1 47 (.bin .eql (.t 45) (.t 46))]) (.cond (.t 47) (.ret) (.skip))) (.seq (.region true [oM 48 0, ⟨some 49, .nilc (.t 48), [0], none⟩, ⟨some 50, .fad 0 (.t 49), [1], none⟩, ⟨some 51, .load false 1 (.t 50), [2], none⟩, oM 52 2, oM 53 0, ⟨some 54, .nilc (.t 53), [5], none⟩, ⟨some 55, .fad 0 (.t 54), [6], none⟩, ⟨some 56, .load false 1 (.t 55), [7], none⟩, oM 57 3, oM 58 0, ⟨some 59, .nilc (.t 58), [10], none⟩, ⟨some 60, .fad 0 (.t 59), [11], none⟩, ⟨some 61, .load false 1 (.t 60), [12], none⟩, oM 62 3, ⟨some 63, .ixS 3 (.t 61) (.t 62), [14, 13], none⟩, ⟨some 64, .load true 3 (.t 63), [15], none⟩, oM 65 0, ⟨some 66, .nilc (.t 65), [17], none⟩, ⟨some 67, .fad 0 (.t 66), [18], none⟩, ⟨some 68, .load false 1 (.t 67), [19], none⟩, oM 69 2, ⟨some 70, .ixS 3 (.t 68) (.t 69), [21, 20], none⟩, ⟨some 71, .load true 3 (.t 70), [22], none⟩, ⟨some 72, .ixS 3 (.t 51) (.t 52), [23, 16, 8, 4, 3], none⟩, ⟨none, .store 3 (.t 72) (.t 64), [24], none⟩, ⟨some 73, .ixS 3 (.t 56) (.t 57), [25, 9], none⟩, ⟨none, .store 3 (.t 73) (.t 71), [26], none⟩]) (.region false [oM 74 3, oM 2 74])))))
def b70 : VCode := .seq (.region false [o1 2 (.mov none (kI 0))]) (.block 0 (.loop false [0, 2] l70_0))
def v70 : VFn := ⟨1, 75, [], b70⟩

theorem c70 : chkFn Try.prog 70 v70 = true := by kernel_rfl

/- cmp.isNaN[int] -/
def b73 : VCode := .seq (.region false [o1 2 (.mov none (kB false))]) (.seq (.region false [oM 3 0, oM 4 0, o1 5 (.bin .neq (.t 3) (.t 4)), oM 2 5]) (.ret))
def v73 : VFn := ⟨1, 6, [.t 2], b73⟩

theorem c73 : chkFn Try.prog 73 v73 = true := by kernel_rfl

def tab : List (Nat × VFn) := [(8, v8), (9, v9), (10, v10), (11, v11), (12, v12), (13, v13), (17, v17), (21, v21), (37, v37), (38, v38), (39, v39), (40, v40), (41, v41), (42, v42), (44, v44), (45, v45), (46, v46), (47, v47), (48, v48), (52, v52), (63, v63), (64, v64), (67, v67), (68, v68), (69, v69), (70, v70), (73, v73)]

theorem tab_ok : TabOK Try.prog (lookT tab) := tabOK_cons c8 (tabOK_cons c9 (tabOK_cons c10 (tabOK_cons c11 (tabOK_cons c12 (tabOK_cons c13 (tabOK_cons c17 (tabOK_cons c21 (tabOK_cons c37 (tabOK_cons c38 (tabOK_cons c39 (tabOK_cons c40 (tabOK_cons c41 (tabOK_cons c42 (tabOK_cons c44 (tabOK_cons c45 (tabOK_cons c46 (tabOK_cons c47 (tabOK_cons c48 (tabOK_cons c52 (tabOK_cons c63 (tabOK_cons c64 (tabOK_cons c67 (tabOK_cons c68 (tabOK_cons c69 (tabOK_cons c70 (tabOK_cons c73 tabOK_nil))))))))))))))))))))))))))

def clones : List (Nat × Nat × Nat) := []

theorem clones_ok : chkClones Try.prog clones = true := by kernel_rfl

theorem mixed : Try.prog.follows .mixedOrders = true := by kernel_rfl

theorem pr_ok : PrOK Try.prog (fun _ => clonePr clones) := fun _ _ _ => clonePr_ok mixed clones_ok

theorem pr_mono : PrMono (fun _ => clonePr clones) := const_mono

abbrev Pl (f : Nat) (vs : List FV) (v : FV) (bs : List Blk) : Prop := Plays (lookT tab) (fun _ => clonePr clones) f vs [] (v, bs)

end Go.Proofs.Ytlbmknejhmmjnaa
