/- The code of the functions that a statement reaches, as V-code, checked against the program. Printed by a program. -/
import Derived.Test.YtlbmknejhmmjnaaV3
import Derived.Test.YtlbmknejhmmjnaaChecked
import Derived.KernelRfl
set_option maxRecDepth 100000
namespace Go.Proofs.Ytlbmknejhmmjnaa
open Go GoV
abbrev o1 (d : Nat) (op : VOp) : VO := ⟨some d, op, [], none⟩
abbrev oM (d s : Nat) : VO := ⟨some d, .mov none (.t s), [], none⟩
abbrev oL (d s : Nat) : VO := ⟨some d, .load false 1 (.t s), [], none⟩
abbrev oF (d k s : Nat) : VO := ⟨some d, .fad k (.t s), [], none⟩
abbrev oG (d : Nat) (op : VOp) (g : Nat) (b : Bool) : VO := ⟨some d, op, [], some (g, b)⟩
abbrev kI (x : Int) : Od := .k (.one (.iv (.int .i64 x)))
abbrev kB (x : Bool) : Od := .k (.one (.iv (.bool x)))
abbrev vI : LV := .iv (.int .i64 0)
abbrev vS : LV := .iv (.sl true 0 [])
abbrev kN : Od := .k (.one vS)

/- scholia/scholialaw06.SortedTables -/
def l6_0 : VCode := .seq (.region false [o1 24 (.bin .lss (.t 23) (.t 22))]) (.seq (.cond (.t 24) (.skip) (.exit 0)) (.seq (.block 1 (.seq (.region false [oM 25 23, o1 26 (.ixS 3 (.t 21) (.t 23)), o1 27 (.load true 3 (.t 26)), o1 8 (.new [vI, vI, .iv (.str ⟨#[]⟩)]), oM 7 25, ⟨none, .store 3 (.t 8) (.t 27), [], none⟩]) (.seq (.seq (.region false [oM 28 7, o1 29 (.bin .geq (.t 28) (kI 200))]) (.cond (.t 29) (.exit 0) (.skip))) (.seq (.region false [oM 31 6, oF 32 2 8, oL 33 32, o1 34 (.call 24 [(false, .t 31), (false, .t 33)]), oM 30 34, o1 35 (.ext 0 (.t 30)), o1 36 (.ext 1 (.t 30)), oM 9 35, oM 10 36]) (.seq (.region false [oF 38 2 8, oL 39 38, o1 40 (.call 25 [(false, .t 5), (false, .t 39)]), oM 37 40, o1 41 (.ext 0 (.t 37)), o1 42 (.ext 1 (.t 37)), oM 11 41, oM 12 42]) (.seq (.region false [oM 43 9, oM 44 11, o1 45 (.bin .eql (.t 43) (.t 44)), oM 46 45, oG 47 (.mov none (.t 10)) 46 true, oG 48 (.mov none (.t 12)) 46 true, oG 49 (.eqs .eql .bool (.t 47) (.t 48)) 46 true, o1 50 (.pick (.t 46) (.t 49) (kB false)), oM 13 50]) (.seq (.seq (.region false [oF 51 0 8, oL 52 51, o1 53 (.conv .u64 (.t 52)), o1 54 (.bin .rem (.t 53) (.k (.one (.iv (.int .u64 3)))))]) (.block 2 (.seq (.region false [o1 68 (.bin .eql (.t 54) (.k (.one (.iv (.int .u64 0))))), oM 67 68]) (.cond (.t 67) (.seq (.region false [oM 69 13, oM 70 69, oG 71 (.fad 2 (.t 8)) 70 true, oG 72 (.load false 1 (.t 71)) 70 true, oG 73 (.fad 1 (.t 8)) 70 true, oG 74 (.load false 1 (.t 73)) 70 true, oG 75 (.call 26 [(false, .t 5), (false, .t 72), (false, .t 74)]) 70 true, oG 76 (.mov none (.t 10)) 70 true, oG 77 (.un .not (.t 76)) 70 true, oG 78 (.eqs .eql .bool (.t 75) (.t 77)) 70 true, o1 79 (.pick (.t 70) (.t 78) (kB false)), oM 13 79]) (.region false [oM 80 6, oF 81 2 8, oL 82 81, oF 83 1 8, oL 84 83, o1 85 (.call 27 [(false, .t 80), (false, .t 82), (false, .t 84)]), oM 6 85])) (.seq (.region false [o1 87 (.bin .eql (.t 54) (.k (.one (.iv (.int .u64 1))))), oM 86 87]) (.cond (.t 86) (.seq (.region false [oF 89 2 8, oL 90 89, o1 91 (.call 28 [(false, .t 5), (false, .t 90)]), oM 88 91, o1 92 (.ext 0 (.t 88)), o1 93 (.ext 1 (.t 88)), oM 14 92, oM 15 93]) (.region false [oM 94 13, oM 95 94, oG 96 (.mov none (.t 15)) 95 true, oG 97 (.mov none (.t 10)) 95 true, oG 98 (.eqs .eql .bool (.t 96) (.t 97)) 95 true, o1 99 (.pick (.t 95) (.t 98) (kB false)), oM 100 99, oG 101 (.mov none (.t 10)) 100 true, oG 102 (.un .not (.t 101)) 100 true, oG 103 (.mov none (.t 102)) 100 true, oG 104 (.mov none (.t 14)) 103 true, oG 105 (.bin .eql (.t 104) (kI 0)) 103 true, oG 106 (.pick (.t 103) (.t 105) (kB false)) 100 true, oG 107 (.mov none (.t 106)) 100 true, oG 108 (.mov none (.t 10)) 107 false, oG 109 (.mov none (.t 108)) 107 false, oG 110 (.mov none (.t 14)) 109 true, oG 111 (.mov none (.t 6)) 109 true, oG 112 (.mov none (.t 9)) 109 true, oG 113 (.ixS 2 (.t 111) (.t 112)) 109 true, oG 114 (.fad 1 (.t 113)) 109 true, oG 115 (.load false 1 (.t 114)) 109 true, oG 116 (.bin .eql (.t 110) (.t 115)) 109 true, oG 117 (.pick (.t 109) (.t 116) (kB false)) 107 false, oG 118 (.pick (.t 107) (kB true) (.t 117)) 100 true, o1 119 (.pick (.t 100) (.t 118) (kB false)), oM 13 119])) (.seq (.region false [oM 55 13, oM 56 55, oG 57 (.fad 2 (.t 8)) 56 true, oG 58 (.load false 1 (.t 57)) 56 true, oG 59 (.call 29 [(false, .t 5), (false, .t 58)]) 56 true, oG 60 (.mov none (.t 10)) 56 true, oG 61 (.eqs .eql .bool (.t 59) (.t 60)) 56 true, o1 62 (.pick (.t 56) (.t 61) (kB false)), oM 13 62]) (.region false [oM 63 6, oF 64 2 8, oL 65 64, o1 66 (.call 30 [(false, .t 63), (false, .t 65)]), oM 6 66])))))))) (.seq (.region false [oM 120 13, o1 121 (.un .not (.t 120)), oM 122 121, oG 123 (.call 31 [(false, .t 5)]) 122 false, oG 124 (.mov none (.t 6)) 122 false, oG 125 (.blt .len [.t 124]) 122 false, oG 126 (.bin .neq (.t 123) (.t 125)) 122 false, o1 127 (.pick (.t 122) (kB true) (.t 126))]) (.cond (.t 127) (.seq (.region false [o1 4 (.mov none (kB false))]) (.ret)) (.skip)))))))))) (.region false [o1 128 (.bin .add (.t 23) (kI 1)), oM 23 128])))
def l6_1 : VCode := .seq (.region false [o1 132 (.bin .lss (.t 131) (.t 130))]) (.seq (.cond (.t 132) (.skip) (.exit 3)) (.seq (.block 4 (.seq (.region false [o1 133 (.ixS 2 (.t 129) (.t 131)), o1 134 (.load true 2 (.t 133)), o1 18 (.new [.iv (.str ⟨#[]⟩), vI]), ⟨none, .store 2 (.t 18) (.t 134), [], none⟩]) (.region false [oM 135 16, oF 136 0 18, oL 137 136, o1 138 (.mks false 1 [.t 137]), o1 139 (.blt (.append 1 16) [.t 135, .t 138]), oM 16 139]))) (.region false [o1 140 (.bin .add (.t 131) (kI 1)), oM 131 140])))
def b6 : VCode := .seq (.region false [o1 4 (.mov none (kB false))]) (.seq (.region false [o1 5 (.new [.fresh 2])]) (.seq (.region false [o1 6 (.mov (some 2) kN)]) (.seq (.seq (.region false [oM 21 0, o1 22 (.blt .len [.t 21]), o1 23 (.mov none (kI 0))]) (.block 0 (.loop false [1, 5, 6, 21, 22, 23] l6_0))) (.seq (.region false [o1 16 (.mov (some 1) kN)]) (.seq (.seq (.region false [oM 129 6, o1 130 (.blt .len [.t 129]), o1 131 (.mov none (kI 0))]) (.block 3 (.loop false [1, 5, 16, 129, 130, 131] l6_1))) (.seq (.region false [oM 142 1, o1 143 (.call 25 [(false, .t 5), (false, .t 142)]), oM 141 143, o1 144 (.ext 0 (.t 141)), o1 145 (.ext 1 (.t 141)), oM 19 144, oM 20 145]) (.seq (.region false [o1 146 (.call 33 [(false, .t 5)]), oM 147 16, o1 148 (.call 32 [(false, .t 146), (false, .t 147)]), oM 149 148, oG 150 (.mov none (.t 20)) 149 true, oG 151 (.mov none (.t 16)) 149 true, oG 152 (.mov none (.t 1)) 149 true, oG 153 (.call 34 [(false, .t 151), (false, .t 152)]) 149 true, oG 154 (.eqs .eql .bool (.t 150) (.t 153)) 149 true, o1 155 (.pick (.t 149) (.t 154) (kB false)), oM 156 155, oG 157 (.call 13 []) 156 true, o1 158 (.pick (.t 156) (.t 157) (kB false)), oM 4 158]) (.ret))))))))
def v6 : VFn := ⟨2, 159, [.t 4], b6⟩

theorem c6 : chkFn Try.prog 6 v6 = true := by kernel_rfl

/- slices.Equal[[]int,int] -/
def l10_0 : VCode := .seq (.region false [o1 14 (.bin .lss (.t 13) (.t 12))]) (.seq (.cond (.t 14) (.skip) (.exit 0)) (.seq (.block 1 (.seq (.region false [oM 15 13, oM 5 15]) (.seq (.region true [oM 16 0, oM 17 5, ⟨some 18, .ixS 1 (.t 16) (.t 17), [1, 0], none⟩, ⟨some 19, .load false 1 (.t 18), [2], none⟩, oM 20 1, oM 21 5, ⟨some 22, .ixS 1 (.t 20) (.t 21), [5, 4], none⟩, ⟨some 23, .load false 1 (.t 22), [6], none⟩, ⟨some 24, .bin .neq (.t 19) (.t 23), [7, 3], none⟩]) (.cond (.t 24) (.seq (.region false [o1 4 (.mov none (kB false))]) (.ret)) (.skip))))) (.region false [o1 25 (.bin .add (.t 13) (kI 1)), oM 13 25])))
def b10 : VCode := .seq (.region false [o1 4 (.mov none (kB false))]) (.seq (.seq (.region false [oM 6 0, o1 7 (.blt .len [.t 6]), oM 8 1, o1 9 (.blt .len [.t 8]), o1 10 (.bin .neq (.t 7) (.t 9))]) (.cond (.t 10) (.seq (.region false [o1 4 (.mov none (kB false))]) (.ret)) (.skip))) (.seq (.seq (.region false [oM 11 0, o1 12 (.blt .len [.t 11]), o1 13 (.mov none (kI 0))]) (.block 0 (.loop false [0, 1, 12, 13] l10_0))) (.seq (.region false [o1 4 (.mov none (kB true))]) (.ret))))
def v10 : VFn := ⟨2, 26, [.t 4], b10⟩

theorem c10 : chkFn Try.prog 10 v10 = true := by kernel_rfl

/- scholia/sorted.Merge[int] -/
def l11_0 : VCode := .seq (.region false [o1 18 (.bin .lss (.t 17) (.t 16))]) (.seq (.cond (.t 18) (.skip) (.exit 0)) (.seq (.block 1 (.seq (.region false [oM 19 17, o1 20 (.ixS 1 (.t 15) (.t 17)), oL 21 20, oM 6 19, oM 7 21]) (.seq (.region false [oM 22 7, o1 23 (.blt .len [.t 22]), o1 24 (.bin .gtr (.t 23) (kI 0))]) (.cond (.t 24) (.region true [oM 25 5, oM 26 7, ⟨some 27, .ixS 1 (.t 26) (kI 0), [1], none⟩, ⟨some 28, .load false 1 (.t 27), [2], none⟩, oM 29 6, oM 30 7, ⟨some 31, .slS 1 (.t 30) (some (kI 1)) none none, [5], none⟩, ⟨some 32, .build [vI, vI, vS] [(0, 1, .t 28), (1, 1, .t 29), (2, 1, .t 31)], [6, 4, 3], none⟩, ⟨some 33, .call 47 [(false, .t 25), (false, .t 32)], [7, 0], none⟩]) (.skip))))) (.region false [o1 34 (.bin .add (.t 17) (kI 1)), oM 17 34])))
def l11_1 : VCode := .block 3 (.seq (.region false [oM 36 5, o1 37 (.call 48 [(false, .t 36)]), oM 35 37, o1 38 (.ext 0 (.t 35)), o1 39 (.ext 1 (.t 35)), o1 9 (.new [vI, vI, vS]), ⟨none, .store 3 (.t 9) (.t 38), [], none⟩, oM 10 39]) (.seq (.seq (.region false [oM 40 10, o1 41 (.un .not (.t 40))]) (.cond (.t 41) (.seq (.region false [oM 42 8, oM 4 42]) (.ret)) (.skip))) (.seq (.region false [oM 43 8, oF 44 0 9, oL 45 44, o1 46 (.mks false 1 [.t 45]), o1 47 (.blt (.append 1 8) [.t 43, .t 46]), oM 8 47]) (.seq (.region false [oF 48 2 9, oL 49 48, o1 50 (.blt .len [.t 49]), o1 51 (.bin .gtr (.t 50) (kI 0))]) (.cond (.t 51) (.region true [oM 52 5, oF 53 2 9, ⟨some 54, .load false 1 (.t 53), [1], none⟩, ⟨some 55, .ixS 1 (.t 54) (kI 0), [2], none⟩, ⟨some 56, .load false 1 (.t 55), [3], none⟩, oF 57 1 9, ⟨some 58, .load false 1 (.t 57), [5], none⟩, oF 59 2 9, ⟨some 60, .load false 1 (.t 59), [7], none⟩, ⟨some 61, .slS 1 (.t 60) (some (kI 1)) none none, [8], none⟩, ⟨some 62, .build [vI, vI, vS] [(0, 1, .t 56), (1, 1, .t 58), (2, 1, .t 61)], [9, 6, 4], none⟩, ⟨some 63, .call 47 [(false, .t 52), (false, .t 62)], [10, 0], none⟩]) (.skip))))))
def b11 : VCode := .seq (.region false [o1 2 (.box (.t 0)), o1 4 (.mov none kN)]) (.seq (.seq (.region false [oL 11 2, o1 12 (.eqs .eql .func (.t 11) (.k (.one (.iv .niln))))]) (.cond (.t 12) (.seq (.region false [o1 4 (.mov none kN)]) (.ret)) (.skip))) (.seq (.region false [o1 13 (.mkf 46 [.t 2]), o1 14 (.call 45 [(false, .t 13)]), oM 5 14]) (.seq (.seq (.region false [oM 15 1, o1 16 (.blt .len [.t 15]), o1 17 (.mov none (kI 0))]) (.block 0 (.loop false [5, 15, 16, 17] l11_0))) (.seq (.region false [o1 8 (.mov (some 1) kN)]) (.block 2 (.loop false [5, 8] l11_1))))))
def v11 : VFn := ⟨2, 64, [.t 4], b11⟩

theorem c11 : chkFn Try.prog 11 v11 = true := by kernel_rfl

/- scholia/scholiaref06.Less -/
def b12 : VCode := .seq (.region false [o1 4 (.mov none (kB false))]) (.seq (.region false [oM 5 0, o1 6 (.call 44 [(false, .t 5)]), oM 7 1, o1 8 (.call 44 [(false, .t 7)]), o1 9 (.bin .lss (.t 6) (.t 8)), oM 4 9]) (.ret))
def v12 : VFn := ⟨2, 10, [.t 4], b12⟩

theorem c12 : chkFn Try.prog 12 v12 = true := by kernel_rfl

/- scholia/scholialaw06.awake -/
def b13 : VCode := .seq (.region false [o1 0 (.mov none (kB false))]) (.seq (.region false [o1 2 (.mks false 1 [.k (.one (.iv (.int .i64 1))), kI 4]), o1 3 (.mks false 1 [.k (.one (.iv (.int .i64 2))), kI 4]), o1 4 (.mks false 1 [.k (.one (vI))]), o1 5 (.mks false 1 [.t 2, .t 3, .t 4]), o1 6 (.call 11 [(false, .k (.one (.iv (.fn 12)))), (false, .t 5)]), oM 1 6]) (.seq (.region false [oM 7 1, o1 8 (.mks false 1 [.k (.one (vI)), kI 1, kI 2, kI 4, kI 4]), o1 9 (.call 10 [(false, .t 7), (false, .t 8)]), oM 0 9]) (.ret)))
def v13 : VFn := ⟨0, 10, [.t 0], b13⟩

theorem c13 : chkFn Try.prog 13 v13 = true := by kernel_rfl

/- scholia/scholiaref06.Below -/
def l24_0 : VCode := .seq (.region false [o1 13 (.bin .lss (.t 12) (.t 11))]) (.seq (.cond (.t 13) (.skip) (.exit 0)) (.seq (.block 1 (.seq (.region false [o1 14 (.ixS 2 (.t 10) (.t 12)), o1 15 (.load true 2 (.t 14)), o1 9 (.new [.iv (.str ⟨#[]⟩), vI]), ⟨none, .store 2 (.t 9) (.t 15), [], none⟩]) (.seq (.seq (.region false [oF 16 0 9, oL 17 16, oM 18 1, o1 19 (.bin .lss (.t 17) (.t 18))]) (.cond (.t 19) (.region false [oM 20 6, o1 21 (.bin .add (.t 20) (kI 1)), oM 6 21]) (.skip))) (.region false [oM 22 7, oM 23 22, oG 24 (.fad 0 (.t 9)) 23 false, oG 25 (.load false 1 (.t 24)) 23 false, oG 26 (.mov none (.t 1)) 23 false, oG 27 (.bin .eql (.t 25) (.t 26)) 23 false, o1 28 (.pick (.t 23) (kB true) (.t 27)), oM 7 28])))) (.region false [o1 29 (.bin .add (.t 12) (kI 1)), oM 12 29])))
def b24 : VCode := .seq (.region false [o1 4 (.mov none (kI 0)), o1 5 (.mov none (kB false))]) (.seq (.region false [o1 6 (.mov none (kI 0))]) (.seq (.region false [o1 7 (.mov none (kB false))]) (.seq (.seq (.region false [oM 10 0, o1 11 (.blt .len [.t 10]), o1 12 (.mov none (kI 0))]) (.block 0 (.loop false [1, 6, 7, 10, 11, 12] l24_0))) (.seq (.region false [oM 30 6, oM 31 7, oM 4 30, oM 5 31]) (.ret)))))
def v24 : VFn := ⟨2, 32, [.t 4, .t 5], b24⟩

theorem c24 : chkFn Try.prog 24 v24 = true := by kernel_rfl

/- (*scholia/sorted.Table[string, int]).Seek -/
def b25 : VCode := .seq (.region false [o1 4 (.mov none (kI 0)), o1 5 (.mov none (kB false))]) (.seq (.seq (.region false [oM 6 0, o1 7 (.eqs .eql .ptr (.t 6) (.k (.one (.iv .nilp))))]) (.cond (.t 7) (.seq (.region false [o1 4 (.mov none (kI 0)), o1 5 (.mov none (kB false))]) (.ret)) (.skip))) (.seq (.region false [oM 8 0, o1 9 (.nilc (.t 8)), oF 10 0 9, oL 11 10, oM 12 1, o1 13 (.call 53 [(true, .t 11), (false, .t 12), (false, .k (.one (.iv (.fn 54))))]), o1 14 (.ext 0 (.t 13)), o1 15 (.ext 1 (.t 13)), oM 4 14, oM 5 15]) (.ret)))
def v25 : VFn := ⟨2, 16, [.t 4, .t 5], b25⟩

theorem c25 : chkFn Try.prog 25 v25 = true := by kernel_rfl

/- (*scholia/sorted.Table[string, int]).Put -/
def b26 : VCode := .seq (.region false [o1 6 (.mov none (kB false))]) (.seq (.seq (.region false [oM 9 0, o1 10 (.eqs .eql .ptr (.t 9) (.k (.one (.iv .nilp))))]) (.cond (.t 10) (.seq (.region false [o1 6 (.mov none (kB false))]) (.ret)) (.skip))) (.seq (.region false [oM 12 0, oM 13 1, o1 14 (.call 25 [(false, .t 12), (false, .t 13)]), oM 11 14, o1 15 (.ext 0 (.t 11)), o1 16 (.ext 1 (.t 11)), oM 7 15, oM 8 16]) (.seq (.seq (.region false [oM 17 8]) (.cond (.t 17) (.seq (.region false [oM 18 0, o1 19 (.nilc (.t 18)), oF 20 0 19, oL 21 20, oM 22 7, oM 23 2, o1 24 (.ixS 2 (.t 21) (.t 22)), oF 25 1 24, ⟨none, .store 1 (.t 25) (.t 23), [], none⟩]) (.seq (.region false [o1 6 (.mov none (kB false))]) (.ret))) (.skip))) (.seq (.region false [oM 26 0, oM 27 0, o1 28 (.nilc (.t 27)), oF 29 0 28, oL 30 29, oM 31 7, oM 32 1, oM 33 2, o1 34 (.build [.iv (.str ⟨#[]⟩), vI] [(0, 1, .t 32), (1, 1, .t 33)]), o1 35 (.mks false 2 [.t 34]), o1 36 (.call 56 [(true, .t 30), (false, .t 31), (false, .t 35)]), o1 37 (.nilc (.t 26)), oF 38 0 37, ⟨none, .store 1 (.t 38) (.t 36), [], none⟩]) (.seq (.region false [o1 6 (.mov none (kB true))]) (.ret))))))
def v26 : VFn := ⟨3, 39, [.t 6], b26⟩

theorem c26 : chkFn Try.prog 26 v26 = true := by kernel_rfl

/- scholia/scholiaref06.Put -/
def b27 : VCode := .seq (.region false [o1 6 (.mov none kN)]) (.seq (.region false [oM 11 0, oM 12 1, o1 13 (.call 24 [(false, .t 11), (false, .t 12)]), oM 10 13, o1 14 (.ext 0 (.t 10)), o1 15 (.ext 1 (.t 10)), oM 7 14, oM 8 15]) (.seq (.region false [o1 9 (.mov (some 2) kN)]) (.seq (.region false [oM 16 9, oM 17 0, oM 18 7, o1 19 (.slS 2 (.t 17) none (some (.t 18)) none), o1 20 (.blt (.append 2 24) [.t 16, .t 19]), oM 9 20]) (.seq (.region false [oM 21 9, oM 22 1, oM 23 2, o1 24 (.build [.iv (.str ⟨#[]⟩), vI] [(0, 1, .t 22), (1, 1, .t 23)]), o1 25 (.mks false 2 [.t 24]), o1 26 (.blt (.append 2 24) [.t 21, .t 25]), oM 9 26]) (.seq (.seq (.region false [oM 27 8]) (.cond (.t 27) (.region false [oM 28 7, o1 29 (.bin .add (.t 28) (kI 1)), oM 7 29]) (.skip))) (.seq (.region false [oM 30 9, oM 31 0, oM 32 7, o1 33 (.slS 2 (.t 31) (some (.t 32)) none none), o1 34 (.blt (.append 2 24) [.t 30, .t 33]), oM 6 34]) (.ret)))))))
def v27 : VFn := ⟨3, 35, [.t 6], b27⟩

theorem c27 : chkFn Try.prog 27 v27 = true := by kernel_rfl

/- (*scholia/sorted.Table[string, int]).Get -/
def b28 : VCode := .seq (.region false [o1 4 (.mov none (kI 0)), o1 5 (.mov none (kB false))]) (.seq (.region false [oM 10 0, oM 11 1, o1 12 (.call 25 [(false, .t 10), (false, .t 11)]), oM 9 12, o1 13 (.ext 0 (.t 9)), o1 14 (.ext 1 (.t 9)), oM 6 13, oM 7 14]) (.seq (.seq (.region false [oM 15 7, o1 16 (.un .not (.t 15))]) (.cond (.t 16) (.seq (.region false [o1 8 (.mov none (kI 0))]) (.seq (.region false [oM 17 8, oM 4 17, o1 5 (.mov none (kB false))]) (.ret))) (.skip))) (.seq (.region false [oM 18 0, o1 19 (.nilc (.t 18)), oF 20 0 19, oL 21 20, oM 22 6, o1 23 (.ixS 2 (.t 21) (.t 22)), oF 24 1 23, oL 25 24, oM 4 25, o1 5 (.mov none (kB true))]) (.ret))))
def v28 : VFn := ⟨2, 26, [.t 4, .t 5], b28⟩

theorem c28 : chkFn Try.prog 28 v28 = true := by kernel_rfl

/- (*scholia/sorted.Table[string, int]).Cut -/
def b29 : VCode := .seq (.region false [o1 4 (.mov none (kB false))]) (.seq (.region false [oM 8 0, oM 9 1, o1 10 (.call 25 [(false, .t 8), (false, .t 9)]), oM 7 10, o1 11 (.ext 0 (.t 7)), o1 12 (.ext 1 (.t 7)), oM 5 11, oM 6 12]) (.seq (.seq (.region false [oM 13 6]) (.cond (.t 13) (.region false [oM 14 0, oM 15 0, o1 16 (.nilc (.t 15)), oF 17 0 16, oL 18 17, oM 19 5, oM 20 5, o1 21 (.bin .add (.t 20) (kI 1)), o1 22 (.call 57 [(true, .t 18), (false, .t 19), (false, .t 21)]), o1 23 (.nilc (.t 14)), oF 24 0 23, ⟨none, .store 1 (.t 24) (.t 22), [], none⟩]) (.skip))) (.seq (.region false [oM 25 6, oM 4 25]) (.ret))))
def v29 : VFn := ⟨2, 26, [.t 4], b29⟩

theorem c29 : chkFn Try.prog 29 v29 = true := by kernel_rfl

/- scholia/scholiaref06.Cut -/
def l30_0 : VCode := .seq (.region false [o1 11 (.bin .lss (.t 10) (.t 9))]) (.seq (.cond (.t 11) (.skip) (.exit 0)) (.seq (.block 1 (.seq (.region false [o1 12 (.ixS 2 (.t 8) (.t 10)), o1 13 (.load true 2 (.t 12)), o1 7 (.new [.iv (.str ⟨#[]⟩), vI]), ⟨none, .store 2 (.t 7) (.t 13), [], none⟩]) (.seq (.region false [oF 14 0 7, oL 15 14, oM 16 1, o1 17 (.bin .neq (.t 15) (.t 16))]) (.cond (.t 17) (.region false [oM 18 5, o1 19 (.load true 2 (.t 7)), o1 20 (.mks false 2 [.t 19]), o1 21 (.blt (.append 2 24) [.t 18, .t 20]), oM 5 21]) (.skip))))) (.region false [o1 22 (.bin .add (.t 10) (kI 1)), oM 10 22])))
def b30 : VCode := .seq (.region false [o1 4 (.mov none kN)]) (.seq (.region false [o1 5 (.mov (some 2) kN)]) (.seq (.seq (.region false [oM 8 0, o1 9 (.blt .len [.t 8]), o1 10 (.mov none (kI 0))]) (.block 0 (.loop false [1, 5, 8, 9, 10] l30_0))) (.seq (.region false [oM 23 5, oM 4 23]) (.ret))))
def v30 : VFn := ⟨2, 24, [.t 4], b30⟩

theorem c30 : chkFn Try.prog 30 v30 = true := by kernel_rfl

/- (*scholia/sorted.Table[string, int]).Len -/
def b31 : VCode := .seq (.region false [o1 2 (.mov none (kI 0))]) (.seq (.seq (.region false [oM 3 0, o1 4 (.eqs .eql .ptr (.t 3) (.k (.one (.iv .nilp))))]) (.cond (.t 4) (.seq (.region false [o1 2 (.mov none (kI 0))]) (.ret)) (.skip))) (.seq (.region false [oM 5 0, o1 6 (.nilc (.t 5)), oF 7 0 6, oL 8 7, o1 9 (.blt .len [.t 8]), oM 2 9]) (.ret)))
def v31 : VFn := ⟨1, 10, [.t 2], b31⟩

theorem c31 : chkFn Try.prog 31 v31 = true := by kernel_rfl

/- slices.Equal[[]string,string] -/
def l32_0 : VCode := .seq (.region false [o1 14 (.bin .lss (.t 13) (.t 12))]) (.seq (.cond (.t 14) (.skip) (.exit 0)) (.seq (.block 1 (.seq (.region false [oM 15 13, oM 5 15]) (.seq (.region true [oM 16 0, oM 17 5, ⟨some 18, .ixS 1 (.t 16) (.t 17), [1, 0], none⟩, ⟨some 19, .load false 1 (.t 18), [2], none⟩, oM 20 1, oM 21 5, ⟨some 22, .ixS 1 (.t 20) (.t 21), [5, 4], none⟩, ⟨some 23, .load false 1 (.t 22), [6], none⟩, ⟨some 24, .bin .neq (.t 19) (.t 23), [7, 3], none⟩]) (.cond (.t 24) (.seq (.region false [o1 4 (.mov none (kB false))]) (.ret)) (.skip))))) (.region false [o1 25 (.bin .add (.t 13) (kI 1)), oM 13 25])))
def b32 : VCode := .seq (.region false [o1 4 (.mov none (kB false))]) (.seq (.seq (.region false [oM 6 0, o1 7 (.blt .len [.t 6]), oM 8 1, o1 9 (.blt .len [.t 8]), o1 10 (.bin .neq (.t 7) (.t 9))]) (.cond (.t 10) (.seq (.region false [o1 4 (.mov none (kB false))]) (.ret)) (.skip))) (.seq (.seq (.region false [oM 11 0, o1 12 (.blt .len [.t 11]), o1 13 (.mov none (kI 0))]) (.block 0 (.loop false [0, 1, 12, 13] l32_0))) (.seq (.region false [o1 4 (.mov none (kB true))]) (.ret))))
def v32 : VFn := ⟨2, 26, [.t 4], b32⟩

theorem c32 : chkFn Try.prog 32 v32 = true := by kernel_rfl

/- (*scholia/sorted.Table[string, int]).Keys -/
def l33_0 : VCode := .seq (.region false [o1 8 (.bin .lss (.t 7) (.t 6))]) (.seq (.cond (.t 8) (.skip) (.exit 0)) (.seq (.block 1 (.seq (.region false [oM 9 7, oM 4 9]) (.region false [oM 10 3, oM 11 0, o1 12 (.nilc (.t 11)), oF 13 0 12, oL 14 13, oM 15 4, o1 16 (.ixS 2 (.t 14) (.t 15)), oF 17 0 16, oL 18 17, o1 19 (.mks false 1 [.t 18]), o1 20 (.blt (.append 1 16) [.t 10, .t 19]), oM 3 20]))) (.region false [o1 21 (.bin .add (.t 7) (kI 1)), oM 7 21])))
def b33 : VCode := .seq (.region false [o1 2 (.mov none kN)]) (.seq (.region false [o1 3 (.mov (some 1) kN)]) (.seq (.seq (.region false [oM 5 0, o1 6 (.call 31 [(false, .t 5)]), o1 7 (.mov none (kI 0))]) (.block 0 (.loop false [0, 3, 6, 7] l33_0))) (.seq (.region false [oM 22 3, oM 2 22]) (.ret))))
def v33 : VFn := ⟨1, 23, [.t 2], b33⟩

theorem c33 : chkFn Try.prog 33 v33 = true := by kernel_rfl

/- slices.Contains[[]string,string] -/
def b34 : VCode := .seq (.region false [o1 4 (.mov none (kB false))]) (.seq (.region false [oM 5 0, oM 6 1, o1 7 (.call 58 [(false, .t 5), (false, .t 6)]), o1 8 (.bin .geq (.t 7) (kI 0)), oM 4 8]) (.ret))
def v34 : VFn := ⟨2, 9, [.t 4], b34⟩

theorem c34 : chkFn Try.prog 34 v34 = true := by kernel_rfl

/- scholia/scholiaref06.key -/
def b44 : VCode := .seq (.region false [o1 2 (.mov none (kI 0))]) (.seq (.region false [oM 3 0, o1 4 (.bin .rem (.t 3) (kI 10)), o1 5 (.bin .add (.t 4) (kI 10)), o1 6 (.bin .rem (.t 5) (kI 10)), oM 2 6]) (.ret))
def v44 : VFn := ⟨1, 7, [.t 2], b44⟩

theorem c44 : chkFn Try.prog 44 v44 = true := by kernel_rfl

/- scholia/sorted.NewHeap[scholia/sorted.head[int]] -/
def b45 : VCode := .seq (.region false [o1 2 (.mov none (.k (.one (.iv .nilp))))]) (.seq (.region false [oM 3 0, o1 4 (.build [.fresh 3, .iv (.niln)] [(1, 1, .t 3)]), o1 5 (.box (.t 4)), oM 2 5]) (.ret))
def v45 : VFn := ⟨1, 6, [.t 2], b45⟩

theorem c45 : chkFn Try.prog 45 v45 = true := by kernel_rfl

/- scholia/sorted.Merge[int]$1 -/
def b46 : VCode := .seq (.region false [o1 3 (.box (.t 0)), o1 4 (.box (.t 1)), o1 5 (.mov none (kB false))]) (.seq (.region false [oL 6 2, oF 7 0 3, oL 8 7, oF 9 0 4, oL 10 9, o1 11 (.callv (.t 6) [(false, .t 8), (false, .t 10)]), oM 12 11, oG 13 (.load false 1 (.t 2)) 12 false, oG 14 (.fad 0 (.t 4)) 12 false, oG 15 (.load false 1 (.t 14)) 12 false, oG 16 (.fad 0 (.t 3)) 12 false, oG 17 (.load false 1 (.t 16)) 12 false, oG 18 (.callv (.t 13) [(false, .t 15), (false, .t 17)]) 12 false, oG 19 (.un .not (.t 18)) 12 false, oG 20 (.mov none (.t 19)) 12 false, oG 21 (.fad 1 (.t 3)) 20 true, oG 22 (.load false 1 (.t 21)) 20 true, oG 23 (.fad 1 (.t 4)) 20 true, oG 24 (.load false 1 (.t 23)) 20 true, oG 25 (.bin .lss (.t 22) (.t 24)) 20 true, oG 26 (.pick (.t 20) (.t 25) (kB false)) 12 false, o1 27 (.pick (.t 12) (kB true) (.t 26)), oM 5 27]) (.ret))
def v46 : VFn := ⟨3, 28, [.t 5], b46⟩

theorem c46 : chkFn Try.prog 46 v46 = true := by kernel_rfl

/- (*scholia/sorted.Heap[scholia/sorted.head[int]]).Push -/
def l47_0 : VCode := .seq (.seq (.region false [oM 25 4, o1 26 (.bin .gtr (.t 25) (kI 0))]) (.cond (.t 26) (.skip) (.exit 0))) (.block 1 (.seq (.region false [oM 27 4, o1 28 (.bin .sub (.t 27) (kI 1)), o1 29 (.bin .quo (.t 28) (kI 2)), oM 5 29]) (.seq (.seq (.region true [oM 30 0, ⟨some 31, .nilc (.t 30), [0], none⟩, ⟨some 32, .fad 1 (.t 31), [1], none⟩, ⟨some 33, .load false 1 (.t 32), [2], none⟩, oM 34 0, ⟨some 35, .nilc (.t 34), [4], none⟩, ⟨some 36, .fad 0 (.t 35), [5], none⟩, ⟨some 37, .load false 1 (.t 36), [6], none⟩, oM 38 4, ⟨some 39, .ixS 3 (.t 37) (.t 38), [8, 7], none⟩, ⟨some 40, .load true 3 (.t 39), [9], none⟩, oM 41 0, ⟨some 42, .nilc (.t 41), [11], none⟩, ⟨some 43, .fad 0 (.t 42), [12], none⟩, ⟨some 44, .load false 1 (.t 43), [13], none⟩, oM 45 5, ⟨some 46, .ixS 3 (.t 44) (.t 45), [15, 14], none⟩, ⟨some 47, .load true 3 (.t 46), [16], none⟩, ⟨some 48, .callv (.t 33) [(false, .t 40), (false, .t 47)], [17, 10, 3], none⟩, ⟨some 49, .un .not (.t 48), [18], none⟩]) (.cond (.t 49) (.ret) (.skip))) (.seq (.region true [oM 50 0, ⟨some 51, .nilc (.t 50), [0], none⟩, ⟨some 52, .fad 0 (.t 51), [1], none⟩, ⟨some 53, .load false 1 (.t 52), [2], none⟩, oM 54 4, oM 55 0, ⟨some 56, .nilc (.t 55), [5], none⟩, ⟨some 57, .fad 0 (.t 56), [6], none⟩, ⟨some 58, .load false 1 (.t 57), [7], none⟩, oM 59 5, oM 60 0, ⟨some 61, .nilc (.t 60), [10], none⟩, ⟨some 62, .fad 0 (.t 61), [11], none⟩, ⟨some 63, .load false 1 (.t 62), [12], none⟩, oM 64 5, ⟨some 65, .ixS 3 (.t 63) (.t 64), [14, 13], none⟩, ⟨some 66, .load true 3 (.t 65), [15], none⟩, oM 67 0, ⟨some 68, .nilc (.t 67), [17], none⟩, ⟨some 69, .fad 0 (.t 68), [18], none⟩, ⟨some 70, .load false 1 (.t 69), [19], none⟩, oM 71 4, ⟨some 72, .ixS 3 (.t 70) (.t 71), [21, 20], none⟩, ⟨some 73, .load true 3 (.t 72), [22], none⟩, ⟨some 74, .ixS 3 (.t 53) (.t 54), [23, 16, 8, 4, 3], none⟩, ⟨none, .store 3 (.t 74) (.t 66), [24], none⟩, ⟨some 75, .ixS 3 (.t 58) (.t 59), [25, 9], none⟩, ⟨none, .store 3 (.t 75) (.t 73), [26], none⟩]) (.region false [oM 76 5, oM 4 76])))))
def b47 : VCode := .seq (.region false [o1 3 (.box (.t 1))]) (.seq (.seq (.region false [oM 6 0, o1 7 (.call 67 [(false, .t 6)]), o1 8 (.un .not (.t 7))]) (.cond (.t 8) (.ret) (.skip))) (.seq (.region true [oM 9 0, oM 10 0, ⟨some 11, .nilc (.t 10), [1], none⟩, ⟨some 12, .fad 0 (.t 11), [2], none⟩, ⟨some 13, .load false 1 (.t 12), [3], none⟩, o1 14 (.load true 3 (.t 3)), ⟨some 15, .mks false 3 [.t 14], [5], none⟩, ⟨some 16, .blt (.append 3 40) [.t 13, .t 15], [6, 4], none⟩, ⟨some 17, .nilc (.t 9), [7, 0], none⟩, ⟨some 18, .fad 0 (.t 17), [8], none⟩, ⟨none, .store 1 (.t 18) (.t 16), [9], none⟩]) (.seq (.region false [oM 19 0, o1 20 (.nilc (.t 19)), oF 21 0 20, oL 22 21, o1 23 (.blt .len [.t 22]), o1 24 (.bin .sub (.t 23) (kI 1)), oM 4 24]) (.block 0 (.loop false [0, 4] l47_0)))))
def v47 : VFn := ⟨2, 77, [], b47⟩

theorem c47 : chkFn Try.prog 47 v47 = true := by kernel_rfl

/- (*scholia/sorted.Heap[scholia/sorted.head[int]]).Pop -/
def b48 : VCode := .seq (.region false [o1 2 (.new [vI, vI, vS]), o1 3 (.mov none (kB false))]) (.seq (.region false [o1 4 (.new [vI, vI, vS])]) (.seq (.seq (.region false [oM 7 0, o1 8 (.call 68 [(false, .t 7)]), o1 9 (.bin .eql (.t 8) (kI 0))]) (.cond (.t 9) (.seq (.region false [o1 10 (.load true 3 (.t 4)), ⟨none, .store 3 (.t 2) (.t 10), [], none⟩, o1 3 (.mov none (kB false))]) (.ret)) (.skip))) (.seq (.region false [oM 11 0, o1 12 (.nilc (.t 11)), oF 13 0 12, oL 14 13, o1 15 (.ixS 3 (.t 14) (kI 0)), o1 16 (.load true 3 (.t 15)), o1 5 (.new [vI, vI, vS]), ⟨none, .store 3 (.t 5) (.t 16), [], none⟩]) (.seq (.region false [oM 17 0, o1 18 (.nilc (.t 17)), oF 19 0 18, oL 20 19, o1 21 (.blt .len [.t 20]), o1 22 (.bin .sub (.t 21) (kI 1)), oM 6 22]) (.seq (.region true [oM 23 0, ⟨some 24, .nilc (.t 23), [0], none⟩, ⟨some 25, .fad 0 (.t 24), [1], none⟩, ⟨some 26, .load false 1 (.t 25), [2], none⟩, oM 27 0, ⟨some 28, .nilc (.t 27), [4], none⟩, ⟨some 29, .fad 0 (.t 28), [5], none⟩, ⟨some 30, .load false 1 (.t 29), [6], none⟩, oM 31 6, ⟨some 32, .ixS 3 (.t 30) (.t 31), [8, 7], none⟩, ⟨some 33, .load true 3 (.t 32), [9], none⟩, ⟨some 34, .ixS 3 (.t 26) (kI 0), [10, 3], none⟩, ⟨none, .store 3 (.t 34) (.t 33), [11], none⟩]) (.seq (.region false [oM 35 0, oM 36 0, o1 37 (.nilc (.t 36)), oF 38 0 37, oL 39 38, oM 40 6, oM 41 6, o1 42 (.bin .add (.t 41) (kI 1)), o1 43 (.call 69 [(true, .t 39), (false, .t 40), (false, .t 42)]), o1 44 (.nilc (.t 35)), oF 45 0 44, ⟨none, .store 1 (.t 45) (.t 43), [], none⟩]) (.seq (.region false [oM 46 0, o1 47 (.call 70 [(false, .t 46)])]) (.seq (.region false [o1 48 (.load true 3 (.t 5)), ⟨none, .store 3 (.t 2) (.t 48), [], none⟩, o1 3 (.mov none (kB true))]) (.ret)))))))))
def v48 : VFn := ⟨1, 49, [.c 2 true 3, .t 3], b48⟩

theorem c48 : chkFn Try.prog 48 v48 = true := by kernel_rfl

/- slices.BinarySearchFunc[[]scholia/sorted.pair[string, int],scholia/sorted.pair[string, int],string] -/
def l53_0 : VCode := .seq (.seq (.region false [oM 15 9, oM 16 10, o1 17 (.bin .lss (.t 15) (.t 16))]) (.cond (.t 17) (.skip) (.exit 0))) (.block 1 (.seq (.region false [oM 18 9, oM 19 10, o1 20 (.bin .add (.t 18) (.t 19)), o1 21 (.conv .u64 (.t 20)), o1 22 (.bin .shr (.t 21) (.k (.one (.iv (.int .u64 1))))), o1 23 (.conv .i64 (.t 22)), oM 11 23]) (.seq (.region false [oM 24 2, oM 25 0, oM 26 11, o1 27 (.ixS 2 (.t 25) (.t 26)), o1 28 (.load true 2 (.t 27)), oM 29 1, o1 30 (.callv (.t 24) [(false, .t 28), (false, .t 29)]), o1 31 (.bin .lss (.t 30) (kI 0))]) (.cond (.t 31) (.region false [oM 32 11, o1 33 (.bin .add (.t 32) (kI 1)), oM 9 33]) (.region false [oM 34 11, oM 10 34])))))
def b53 : VCode := .seq (.region false [o1 6 (.mov none (kI 0)), o1 7 (.mov none (kB false))]) (.seq (.region false [oM 12 0, o1 13 (.blt .len [.t 12]), oM 8 13]) (.seq (.region false [oM 14 8, o1 9 (.mov none (kI 0)), oM 10 14]) (.seq (.block 0 (.loop false [0, 1, 2, 8, 9, 10] l53_0)) (.seq (.region false [oM 35 9, oM 36 9, oM 37 8, o1 38 (.bin .lss (.t 36) (.t 37)), oM 39 38, oG 40 (.mov none (.t 2)) 39 true, oG 41 (.mov none (.t 0)) 39 true, oG 42 (.mov none (.t 9)) 39 true, oG 43 (.ixS 2 (.t 41) (.t 42)) 39 true, oG 44 (.load true 2 (.t 43)) 39 true, oG 45 (.mov none (.t 1)) 39 true, oG 46 (.callv (.t 40) [(false, .t 44), (false, .t 45)]) 39 true, oG 47 (.bin .eql (.t 46) (kI 0)) 39 true, o1 48 (.pick (.t 39) (.t 47) (kB false)), oM 6 35, oM 7 48]) (.ret)))))
def v53 : VFn := ⟨3, 49, [.t 6, .t 7], b53⟩

theorem c53 : chkFn Try.prog 53 v53 = true := by kernel_rfl

/- (*scholia/sorted.Table[string, int]).Seek$1 -/
def b54 : VCode := .seq (.region false [o1 2 (.box (.t 0)), o1 4 (.mov none (kI 0))]) (.seq (.region false [oF 5 0 2, oL 6 5, oM 7 1, o1 8 (.call 55 [(false, .t 6), (false, .t 7)]), oM 4 8]) (.ret))
def v54 : VFn := ⟨2, 9, [.t 4], b54⟩

theorem c54 : chkFn Try.prog 54 v54 = true := by kernel_rfl

/- cmp.Compare[string] -/
def b55 : VCode := .seq (.region false [o1 4 (.mov none (kI 0))]) (.seq (.region false [oM 7 0, o1 8 (.call 74 [(false, .t 7)]), oM 5 8]) (.seq (.region false [oM 9 1, o1 10 (.call 74 [(false, .t 9)]), oM 6 10]) (.seq (.seq (.region false [oM 11 5]) (.cond (.t 11) (.seq (.seq (.region false [oM 12 6]) (.cond (.t 12) (.seq (.region false [o1 4 (.mov none (kI 0))]) (.ret)) (.skip))) (.seq (.region false [o1 4 (.mov none (.k (.one (.iv (.int .i64 (-1))))))]) (.ret))) (.skip))) (.seq (.seq (.region false [oM 13 6]) (.cond (.t 13) (.seq (.region false [o1 4 (.mov none (kI 1))]) (.ret)) (.skip))) (.seq (.seq (.region false [oM 14 0, oM 15 1, o1 16 (.bin .lss (.t 14) (.t 15))]) (.cond (.t 16) (.seq (.region false [o1 4 (.mov none (.k (.one (.iv (.int .i64 (-1))))))]) (.ret)) (.skip))) (.seq (.seq (.region false [oM 17 0, oM 18 1, o1 19 (.bin .gtr (.t 17) (.t 18))]) (.cond (.t 19) (.seq (.region false [o1 4 (.mov none (kI 1))]) (.ret)) (.skip))) (.seq (.region false [o1 4 (.mov none (kI 0))]) (.ret))))))))
def v55 : VFn := ⟨2, 20, [.t 4], b55⟩

theorem c55 : chkFn Try.prog 55 v55 = true := by kernel_rfl

/- slices.Delete[[]scholia/sorted.pair[string, int],scholia/sorted.pair[string, int]] -/
def b57 : VCode := .seq (.region false [o1 6 (.mov none kN)]) (.seq (.region false [oM 8 0, oM 9 1, oM 10 2, oM 11 0, o1 12 (.blt .len [.t 11]), o1 13 (.slU 2 (.t 8) (some (.t 9)) (some (.t 10)) (some (.t 12)))]) (.seq (.seq (.region false [oM 14 1, oM 15 2, o1 16 (.bin .eql (.t 14) (.t 15))]) (.cond (.t 16) (.seq (.region false [oM 17 0, oM 6 17]) (.ret)) (.skip))) (.seq (.region false [oM 18 0, o1 19 (.blt .len [.t 18]), oM 7 19]) (.seq (.region true [oM 20 0, oM 21 1, ⟨some 22, .slS 2 (.t 20) none (some (.t 21)) none, [1, 0], none⟩, oM 23 0, oM 24 2, ⟨some 25, .slS 2 (.t 23) (some (.t 24)) none none, [4, 3], none⟩, ⟨some 26, .blt (.append 2 24) [.t 22, .t 25], [5, 2], none⟩, ⟨some 0, .mov none (.t 26), [6], none⟩]) (.seq (.region false [oM 27 0, oM 28 0, o1 29 (.blt .len [.t 28]), oM 30 7, o1 31 (.slS 2 (.t 27) (some (.t 29)) (some (.t 30)) none), ⟨none, .blt (.clear [(.str ⟨#[]⟩), (.int .i64 0)]) [.t 31], [], none⟩]) (.seq (.region false [oM 32 0, oM 6 32]) (.ret)))))))
def v57 : VFn := ⟨3, 33, [.t 6], b57⟩

theorem c57 : chkFn Try.prog 57 v57 = true := by kernel_rfl

/- slices.Index[[]string,string] -/
def l58_0 : VCode := .seq (.region false [o1 9 (.bin .lss (.t 8) (.t 7))]) (.seq (.cond (.t 9) (.skip) (.exit 0)) (.seq (.block 1 (.seq (.region false [oM 10 8, oM 5 10]) (.seq (.region false [oM 11 1, oM 12 0, oM 13 5, o1 14 (.ixS 1 (.t 12) (.t 13)), oL 15 14, o1 16 (.bin .eql (.t 11) (.t 15))]) (.cond (.t 16) (.seq (.region false [oM 17 5, oM 4 17]) (.ret)) (.skip))))) (.region false [o1 18 (.bin .add (.t 8) (kI 1)), oM 8 18])))
def b58 : VCode := .seq (.region false [o1 4 (.mov none (kI 0))]) (.seq (.seq (.region false [oM 6 0, o1 7 (.blt .len [.t 6]), o1 8 (.mov none (kI 0))]) (.block 0 (.loop false [0, 1, 7, 8] l58_0))) (.seq (.region false [o1 4 (.mov none (.k (.one (.iv (.int .i64 (-1))))))]) (.ret)))
def v58 : VFn := ⟨2, 19, [.t 4], b58⟩

theorem c58 : chkFn Try.prog 58 v58 = true := by kernel_rfl

/- (*scholia/sorted.Heap[scholia/sorted.head[int]]).made -/
def b67 : VCode := .seq (.region false [o1 2 (.mov none (kB false))]) (.seq (.region false [oM 3 0, o1 4 (.eqs .neq .ptr (.t 3) (.k (.one (.iv .nilp)))), oM 5 4, oG 6 (.mov none (.t 0)) 5 true, oG 7 (.nilc (.t 6)) 5 true, oG 8 (.fad 1 (.t 7)) 5 true, oG 9 (.load false 1 (.t 8)) 5 true, oG 10 (.eqs .neq .func (.t 9) (.k (.one (.iv .niln)))) 5 true, o1 11 (.pick (.t 5) (.t 10) (kB false)), oM 2 11]) (.ret))
def v67 : VFn := ⟨1, 12, [.t 2], b67⟩

theorem c67 : chkFn Try.prog 67 v67 = true := by kernel_rfl

/- (*scholia/sorted.Heap[scholia/sorted.head[int]]).Len -/
def b68 : VCode := .seq (.region false [o1 2 (.mov none (kI 0))]) (.seq (.seq (.region false [oM 3 0, o1 4 (.eqs .eql .ptr (.t 3) (.k (.one (.iv .nilp))))]) (.cond (.t 4) (.seq (.region false [o1 2 (.mov none (kI 0))]) (.ret)) (.skip))) (.seq (.region false [oM 5 0, o1 6 (.nilc (.t 5)), oF 7 0 6, oL 8 7, o1 9 (.blt .len [.t 8]), oM 2 9]) (.ret)))
def v68 : VFn := ⟨1, 10, [.t 2], b68⟩

theorem c68 : chkFn Try.prog 68 v68 = true := by kernel_rfl

/- slices.Delete[[]scholia/sorted.head[int],scholia/sorted.head[int]] -/
def b69 : VCode := .seq (.region false [o1 6 (.mov none kN)]) (.seq (.region false [oM 8 0, oM 9 1, oM 10 2, oM 11 0, o1 12 (.blt .len [.t 11]), o1 13 (.slU 3 (.t 8) (some (.t 9)) (some (.t 10)) (some (.t 12)))]) (.seq (.seq (.region false [oM 14 1, oM 15 2, o1 16 (.bin .eql (.t 14) (.t 15))]) (.cond (.t 16) (.seq (.region false [oM 17 0, oM 6 17]) (.ret)) (.skip))) (.seq (.region false [oM 18 0, o1 19 (.blt .len [.t 18]), oM 7 19]) (.seq (.region true [oM 20 0, oM 21 1, ⟨some 22, .slS 3 (.t 20) none (some (.t 21)) none, [1, 0], none⟩, oM 23 0, oM 24 2, ⟨some 25, .slS 3 (.t 23) (some (.t 24)) none none, [4, 3], none⟩, ⟨some 26, .blt (.append 3 40) [.t 22, .t 25], [5, 2], none⟩, ⟨some 0, .mov none (.t 26), [6], none⟩]) (.seq (.region false [oM 27 0, oM 28 0, o1 29 (.blt .len [.t 28]), oM 30 7, o1 31 (.slS 3 (.t 27) (some (.t 29)) (some (.t 30)) none), ⟨none, .blt (.clear [(.int .i64 0), (.int .i64 0), (.sl true 0 [])]) [.t 31], [], none⟩]) (.seq (.region false [oM 32 0, oM 6 32]) (.ret)))))))
def v69 : VFn := ⟨3, 33, [.t 6], b69⟩

theorem c69 : chkFn Try.prog 69 v69 = true := by kernel_rfl

/- (*scholia/sorted.Heap[scholia/sorted.head[int]]).sink -/
def l70_1 : VCode := .seq (.seq (.region false [oM 9 4, oM 10 2, o1 11 (.bin .mul (kI 2) (.t 10)), o1 12 (.bin .add (.t 11) (kI 2)), o1 13 (.bin .leq (.t 9) (.t 12)), oM 14 13, oG 15 (.mov none (.t 4)) 14 true, oG 16 (.mov none (.t 0)) 14 true, oG 17 (.nilc (.t 16)) 14 true, oG 18 (.fad 0 (.t 17)) 14 true, oG 19 (.load false 1 (.t 18)) 14 true, oG 20 (.blt .len [.t 19]) 14 true, oG 21 (.bin .lss (.t 15) (.t 20)) 14 true, o1 22 (.pick (.t 14) (.t 21) (kB false))]) (.cond (.t 22) (.skip) (.exit 2))) (.seq (.block 3 (.seq (.region true [oM 25 0, ⟨some 26, .nilc (.t 25), [0], none⟩, ⟨some 27, .fad 1 (.t 26), [1], none⟩, ⟨some 28, .load false 1 (.t 27), [2], none⟩, oM 29 0, ⟨some 30, .nilc (.t 29), [4], none⟩, ⟨some 31, .fad 0 (.t 30), [5], none⟩, ⟨some 32, .load false 1 (.t 31), [6], none⟩, oM 33 4, ⟨some 34, .ixS 3 (.t 32) (.t 33), [8, 7], none⟩, ⟨some 35, .load true 3 (.t 34), [9], none⟩, oM 36 0, ⟨some 37, .nilc (.t 36), [11], none⟩, ⟨some 38, .fad 0 (.t 37), [12], none⟩, ⟨some 39, .load false 1 (.t 38), [13], none⟩, oM 40 3, ⟨some 41, .ixS 3 (.t 39) (.t 40), [15, 14], none⟩, ⟨some 42, .load true 3 (.t 41), [16], none⟩, ⟨some 43, .callv (.t 28) [(false, .t 35), (false, .t 42)], [17, 10, 3], none⟩]) (.cond (.t 43) (.region false [oM 44 4, oM 3 44]) (.skip)))) (.region false [oM 23 4, o1 24 (.bin .add (.t 23) (kI 1)), oM 4 24]))
def l70_0 : VCode := .block 1 (.seq (.region false [oM 5 2, oM 3 5]) (.seq (.seq (.region false [oM 6 2, o1 7 (.bin .mul (kI 2) (.t 6)), o1 8 (.bin .add (.t 7) (kI 1)), oM 4 8]) (.block 2 (.loop false [0, 2, 3, 4] l70_1))) (.seq (.seq (.region false [oM 45 3, oM 46 2, o1 47 (.bin .eql (.t 45) (.t 46))]) (.cond (.t 47) (.ret) (.skip))) (.seq (.region true [oM 48 0, ⟨some 49, .nilc (.t 48), [0], none⟩, ⟨some 50, .fad 0 (.t 49), [1], none⟩, ⟨some 51, .load false 1 (.t 50), [2], none⟩, oM 52 2, oM 53 0, ⟨some 54, .nilc (.t 53), [5], none⟩, ⟨some 55, .fad 0 (.t 54), [6], none⟩, ⟨some 56, .load false 1 (.t 55), [7], none⟩, oM 57 3, oM 58 0, ⟨some 59, .nilc (.t 58), [10], none⟩, ⟨some 60, .fad 0 (.t 59), [11], none⟩, ⟨some 61, .load false 1 (.t 60), [12], none⟩, oM 62 3, ⟨some 63, .ixS 3 (.t 61) (.t 62), [14, 13], none⟩, ⟨some 64, .load true 3 (.t 63), [15], none⟩, oM 65 0, ⟨some 66, .nilc (.t 65), [17], none⟩, ⟨some 67, .fad 0 (.t 66), [18], none⟩, ⟨some 68, .load false 1 (.t 67), [19], none⟩, oM 69 2, ⟨some 70, .ixS 3 (.t 68) (.t 69), [21, 20], none⟩, ⟨some 71, .load true 3 (.t 70), [22], none⟩, ⟨some 72, .ixS 3 (.t 51) (.t 52), [23, 16, 8, 4, 3], none⟩, ⟨none, .store 3 (.t 72) (.t 64), [24], none⟩, ⟨some 73, .ixS 3 (.t 56) (.t 57), [25, 9], none⟩, ⟨none, .store 3 (.t 73) (.t 71), [26], none⟩]) (.region false [oM 74 3, oM 2 74])))))
def b70 : VCode := .seq (.region false [o1 2 (.mov none (kI 0))]) (.block 0 (.loop false [0, 2] l70_0))
def v70 : VFn := ⟨1, 75, [], b70⟩

theorem c70 : chkFn Try.prog 70 v70 = true := by kernel_rfl

/- cmp.isNaN[string] -/
def b74 : VCode := .seq (.region false [o1 2 (.mov none (kB false))]) (.seq (.region false [oM 3 0, oM 4 0, o1 5 (.bin .neq (.t 3) (.t 4)), oM 2 5]) (.ret))
def v74 : VFn := ⟨1, 6, [.t 2], b74⟩

theorem c74 : chkFn Try.prog 74 v74 = true := by kernel_rfl

def tab : List (Nat × VFn) := [(6, v6), (10, v10), (11, v11), (12, v12), (13, v13), (24, v24), (25, v25), (26, v26), (27, v27), (28, v28), (29, v29), (30, v30), (31, v31), (32, v32), (33, v33), (34, v34), (44, v44), (45, v45), (46, v46), (47, v47), (48, v48), (53, v53), (54, v54), (55, v55), (57, v57), (58, v58), (67, v67), (68, v68), (69, v69), (70, v70), (74, v74)]

theorem tab_ok : TabOK Try.prog (lookT tab) := tabOK_cons c6 (tabOK_cons c10 (tabOK_cons c11 (tabOK_cons c12 (tabOK_cons c13 (tabOK_cons c24 (tabOK_cons c25 (tabOK_cons c26 (tabOK_cons c27 (tabOK_cons c28 (tabOK_cons c29 (tabOK_cons c30 (tabOK_cons c31 (tabOK_cons c32 (tabOK_cons c33 (tabOK_cons c34 (tabOK_cons c44 (tabOK_cons c45 (tabOK_cons c46 (tabOK_cons c47 (tabOK_cons c48 (tabOK_cons c53 (tabOK_cons c54 (tabOK_cons c55 (tabOK_cons c57 (tabOK_cons c58 (tabOK_cons c67 (tabOK_cons c68 (tabOK_cons c69 (tabOK_cons c70 (tabOK_cons c74 tabOK_nil))))))))))))))))))))))))))))))

def clones : List (Nat × Nat × Nat) := []

theorem clones_ok : chkClones Try.prog clones = true := by kernel_rfl

theorem mixed : Try.prog.follows .mixedOrders = true := by kernel_rfl

theorem pr_ok : PrOK Try.prog (fun _ => clonePr clones) := fun _ _ _ => clonePr_ok mixed clones_ok

abbrev Pl (f : Nat) (vs : List FV) (v : FV) (bs : List Blk) : Prop := Plays (lookT tab) (fun _ => clonePr clones) f vs [] (v, bs)

end Go.Proofs.Ytlbmknejhmmjnaa
