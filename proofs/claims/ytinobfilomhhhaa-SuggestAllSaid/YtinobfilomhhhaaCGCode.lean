/- The code of the functions that a statement reaches, as V-code, checked against the program. Printed by a program. -/
import Derived.Test.YtinobfilomhhhaaV3
import Derived.Test.YtinobfilomhhhaaChecked
import Derived.KernelRfl
set_option maxRecDepth 100000
namespace Go.Proofs.Ytinobfilomhhhaa
open Go GoV
abbrev o1 (d : Nat) (op : VOp) : VO := ⟨some d, op, [], none⟩
abbrev oM (d s : Nat) : VO := ⟨some d, .mov none (.t s), [], none⟩
abbrev oL (d s : Nat) : VO := ⟨some d, .load false 1 (.t s), [], none⟩
abbrev oF (d k s : Nat) : VO := ⟨some d, .fad k (.t s), [], none⟩
abbrev oG (d : Nat) (op : VOp) (g : Nat) (b : Bool) : VO := ⟨some d, op, [], some (g, b)⟩
abbrev kI (x : Int) : Od := .k (.one (.iv (.int .i64 x)))
abbrev kB (x : Bool) : Od := .k (.one (.iv (.bool x)))
abbrev vI : LV := .iv (.int .i64 0)
abbrev vS : LV := .iv (.sl true 0 [])
abbrev kN : Od := .k (.one vS)

/- scholia/scholialaw32.SuggestAll -/
def l6_0 : VCode := .seq (.region false [o1 12 (.bin .lss (.t 11) (.t 10))]) (.seq (.cond (.t 12) (.skip) (.exit 0)) (.seq (.block 1 (.seq (.region false [oM 13 11, o1 14 (.ixS 2 (.t 9) (.t 11)), o1 15 (.load true 2 (.t 14)), o1 5 (.new [.iv (.str ⟨#[]⟩), vS]), oM 4 13, ⟨none, .store 2 (.t 5) (.t 15), [], none⟩]) (.seq (.seq (.region false [oM 16 4, o1 17 (.bin .gtr (.t 16) (kI 40)), oM 18 17, oG 19 (.fad 0 (.t 5)) 18 false, oG 20 (.load false 1 (.t 19)) 18 false, oG 21 (.blt .lenS [.t 20]) 18 false, oG 22 (.bin .gtr (.t 21) (kI 200)) 18 false, o1 23 (.pick (.t 18) (kB true) (.t 22))]) (.cond (.t 23) (.seq (.region false [o1 24 (.call 10 []), oM 2 24]) (.ret)) (.skip))) (.region false [oM 25 3, oF 26 0 5, oL 27 26, o1 28 (.mks false 1 [.t 27]), o1 29 (.blt (.append 1 16) [.t 25, .t 28]), oM 3 29])))) (.region false [o1 30 (.bin .add (.t 11) (kI 1)), oM 11 30])))
def l6_1 : VCode := .seq (.region false [o1 41 (.bin .lss (.t 40) (.t 39))]) (.seq (.cond (.t 41) (.skip) (.exit 2)) (.seq (.block 3 (.seq (.region false [o1 42 (.ixS 1 (.t 38) (.t 40)), oL 43 42, oM 8 43]) (.seq (.region false [oM 44 8, o1 45 (.bin .eql (.t 44) (.k (.one (.iv (.str ⟨#[]⟩))))), oM 46 45, oG 47 (.mov none (.t 8)) 46 false, oG 48 (.blt .lenS [.t 47]) 46 false, oG 49 (.bin .gtr (.t 48) (kI 64)) 46 false, o1 50 (.pick (.t 46) (kB true) (.t 49))]) (.cond (.t 50) (.seq (.region false [oM 51 6, o1 52 (.blt .len [.t 51]), o1 53 (.bin .eql (.t 52) (kI 0)), oM 54 53, oG 55 (.call 10 []) 54 true, o1 56 (.pick (.t 54) (.t 55) (kB false)), oM 2 56]) (.ret)) (.skip))))) (.region false [o1 57 (.bin .add (.t 40) (kI 1)), oM 40 57])))
def b6 : VCode := .seq (.region false [o1 2 (.mov none (kB false))]) (.seq (.region false [o1 3 (.mov (some 1) kN)]) (.seq (.seq (.region false [oM 9 0, o1 10 (.blt .len [.t 9]), o1 11 (.mov none (kI 0))]) (.block 0 (.loop false [0, 3, 9, 10, 11] l6_0))) (.seq (.region false [oM 31 3, o1 32 (.call 19 [(true, .t 31)])]) (.seq (.region false [oM 33 3, o1 34 (.call 20 [(true, .t 33)]), oM 3 34]) (.seq (.region false [oM 35 0, o1 36 (.call 21 [(false, .t 35)]), o1 37 (.call 22 [(false, .t 36)]), oM 6 37]) (.seq (.seq (.region false [oM 38 3, o1 39 (.blt .len [.t 38]), o1 40 (.mov none (kI 0))]) (.block 2 (.loop false [3, 6, 38, 39, 40] l6_1))) (.seq (.region false [oM 58 6, oM 59 3, o1 60 (.call 17 [(false, .t 58), (false, .t 59)]), oM 61 60, oG 62 (.call 10 []) 61 true, o1 63 (.pick (.t 61) (.t 62) (kB false)), oM 2 63]) (.ret))))))))
def v6 : VFn := ⟨1, 64, [.t 2], b6⟩

theorem c6 : chkFn Try.prog 6 v6 = true := by kernel_rfl

/- scholia/suggest.Distance -/
def l8_0 : VCode := .seq (.region false [o1 29 (.bin .lss (.t 28) (.t 27))]) (.seq (.cond (.t 29) (.skip) (.exit 0)) (.seq (.block 1 (.seq (.region false [oM 30 28, oM 9 30]) (.region false [oM 31 7, oM 32 9, o1 33 (.mks false 1 [.t 32]), o1 34 (.blt (.append 1 8) [.t 31, .t 33]), oM 7 34]))) (.region false [o1 35 (.bin .add (.t 28) (kI 1)), oM 28 35])))
def l8_1 : VCode := .seq (.seq (.region false [oM 36 10, oM 37 5, o1 38 (.blt .len [.t 37]), o1 39 (.bin .leq (.t 36) (.t 38))]) (.cond (.t 39) (.skip) (.exit 2))) (.seq (.block 3 (.region false [oM 42 5, oM 43 6, oM 44 10, oM 45 7, oM 46 8, o1 47 (.call 26 [(false, .t 42), (false, .t 43), (false, .t 44), (false, .t 45), (false, .t 46)]), oM 48 7, oM 7 47, oM 8 48])) (.region false [oM 40 10, o1 41 (.bin .add (.t 40) (kI 1)), oM 10 41]))
def b8 : VCode := .seq (.region false [o1 4 (.mov none (kI 0))]) (.seq (.region false [oM 11 0, o1 12 (.call 25 [(false, .t 11)]), oM 13 1, o1 14 (.call 25 [(false, .t 13)]), oM 5 12, oM 6 14]) (.seq (.region true [oM 15 5, oM 16 5, ⟨some 17, .blt .len [.t 16], [1], none⟩, ⟨some 18, .blt .min [.t 17, kI 64], [2], none⟩, ⟨some 19, .slS 1 (.t 15) none (some (.t 18)) none, [3, 0], none⟩, oM 20 6, oM 21 6, ⟨some 22, .blt .len [.t 21], [6], none⟩, ⟨some 23, .blt .min [.t 22, kI 64], [7], none⟩, ⟨some 24, .slS 1 (.t 20) none (some (.t 23)) none, [8, 5], none⟩, ⟨some 5, .mov none (.t 19), [4], none⟩, ⟨some 6, .mov none (.t 24), [10, 9], none⟩]) (.seq (.region false [o1 7 (.mov (some 1) kN), o1 8 (.mov (some 1) kN)]) (.seq (.seq (.region false [oM 25 6, o1 26 (.blt .len [.t 25]), o1 27 (.bin .add (.t 26) (kI 1)), o1 28 (.mov none (kI 0))]) (.block 0 (.loop false [5, 6, 7, 8, 27, 28] l8_0))) (.seq (.seq (.region false [o1 10 (.mov none (kI 1))]) (.block 2 (.loop false [5, 6, 7, 8, 10] l8_1))) (.seq (.region false [oM 49 7, oM 50 6, o1 51 (.blt .len [.t 50]), o1 52 (.ixS 1 (.t 49) (.t 51)), oL 53 52, oM 4 53]) (.ret)))))))
def v8 : VFn := ⟨2, 54, [.t 4], b8⟩

theorem c8 : chkFn Try.prog 8 v8 = true := by kernel_rfl

/- scholia/scholialaw32.awake -/
def b10 : VCode := .seq (.region false [o1 0 (.mov none (kB false))]) (.seq (.region false [o1 1 (.call 8 [(false, .k (.one (.iv (.str ⟨#[102, 111, 120]⟩)))), (false, .k (.one (.iv (.str ⟨#[102, 120, 111]⟩))))]), o1 2 (.bin .eql (.t 1) (kI 1)), oM 3 2, ⟨some 4, .call 8 [(false, .k (.one (.iv (.str ⟨#[114, 101, 100]⟩)))), (false, .k (.one (.iv (.str ⟨#[98, 114, 101, 100]⟩))))], [], some (3, true)⟩, oG 5 (.bin .eql (.t 4) (kI 1)) 3 true, o1 6 (.pick (.t 3) (.t 5) (kB false)), oM 0 6]) (.ret))
def v10 : VFn := ⟨0, 7, [.t 0], b10⟩

theorem c10 : chkFn Try.prog 10 v10 = true := by kernel_rfl

/- scholia/dict.Build -/
def l14_0 : VCode := .seq (.region false [o1 16 (.bin .lss (.t 15) (.t 14))]) (.seq (.cond (.t 16) (.skip) (.exit 0)) (.seq (.block 1 (.seq (.region false [oM 17 15, o1 18 (.ixS 1 (.t 13) (.t 15)), oL 19 18, oM 6 17, oM 7 19]) (.seq (.seq (.region false [oM 20 7, oM 21 5, o1 22 (.bin .leq (.t 20) (.t 21)), oM 23 22, oG 24 (.mov none (.t 7)) 23 false, oG 25 (.blt .lenS [.t 24]) 23 false, oG 26 (.bin .gtr (.t 25) (kI 64)) 23 false, o1 27 (.pick (.t 23) (kB true) (.t 26))]) (.cond (.t 27) (.seq (.region false [o1 2 (.mov none (.k (.one (.iv .nilp)))), o1 3 (.mov none (kI 1))]) (.ret)) (.skip))) (.seq (.region false [oM 28 4, oM 29 7, oM 30 5, oM 31 6, o1 32 (.call 33 [(false, .t 28), (false, .t 29), (false, .t 30), (false, .t 31)])]) (.region false [oM 33 7, oM 5 33]))))) (.region false [o1 34 (.bin .add (.t 15) (kI 1)), oM 15 34])))
def b14 : VCode := .seq (.region false [o1 2 (.mov none (.k (.one (.iv .nilp)))), o1 3 (.mov none (kI 0))]) (.seq (.seq (.region false [oM 8 0, o1 9 (.blt .len [.t 8]), o1 10 (.bin .gtr (.t 9) (kI 16384))]) (.cond (.t 10) (.seq (.region false [o1 2 (.mov none (.k (.one (.iv .nilp)))), o1 3 (.mov none (kI 5))]) (.ret)) (.skip))) (.seq (.region false [o1 11 (.build [vI, .fresh 1, .fresh 1] []), o1 12 (.box (.t 11)), oM 4 12]) (.seq (.region false [o1 5 (.mov none (.k (.one (.iv (.str ⟨#[]⟩)))))]) (.seq (.seq (.region false [oM 13 0, o1 14 (.blt .len [.t 13]), o1 15 (.mov none (kI 0))]) (.block 0 (.loop false [4, 5, 13, 14, 15] l14_0))) (.seq (.region false [oM 35 4, oM 2 35, o1 3 (.mov none (kI 0))]) (.ret))))))
def v14 : VFn := ⟨1, 36, [.t 2, .t 3], b14⟩

theorem c14 : chkFn Try.prog 14 v14 = true := by kernel_rfl

/- slices.Equal[[]string,string] -/
def l17_0 : VCode := .seq (.region false [o1 14 (.bin .lss (.t 13) (.t 12))]) (.seq (.cond (.t 14) (.skip) (.exit 0)) (.seq (.block 1 (.seq (.region false [oM 15 13, oM 5 15]) (.seq (.region true [oM 16 0, oM 17 5, ⟨some 18, .ixS 1 (.t 16) (.t 17), [1, 0], none⟩, ⟨some 19, .load false 1 (.t 18), [2], none⟩, oM 20 1, oM 21 5, ⟨some 22, .ixS 1 (.t 20) (.t 21), [5, 4], none⟩, ⟨some 23, .load false 1 (.t 22), [6], none⟩, ⟨some 24, .bin .neq (.t 19) (.t 23), [7, 3], none⟩]) (.cond (.t 24) (.seq (.region false [o1 4 (.mov none (kB false))]) (.ret)) (.skip))))) (.region false [o1 25 (.bin .add (.t 13) (kI 1)), oM 13 25])))
def b17 : VCode := .seq (.region false [o1 4 (.mov none (kB false))]) (.seq (.seq (.region false [oM 6 0, o1 7 (.blt .len [.t 6]), oM 8 1, o1 9 (.blt .len [.t 8]), o1 10 (.bin .neq (.t 7) (.t 9))]) (.cond (.t 10) (.seq (.region false [o1 4 (.mov none (kB false))]) (.ret)) (.skip))) (.seq (.seq (.region false [oM 11 0, o1 12 (.blt .len [.t 11]), o1 13 (.mov none (kI 0))]) (.block 0 (.loop false [0, 1, 12, 13] l17_0))) (.seq (.region false [o1 4 (.mov none (kB true))]) (.ret))))
def v17 : VFn := ⟨2, 26, [.t 4], b17⟩

theorem c17 : chkFn Try.prog 17 v17 = true := by kernel_rfl

/- slices.Compact[[]string,string] -/
def l20_1 : VCode := .seq (.seq (.region false [oM 29 5, oM 30 4, o1 31 (.blt .len [.t 30]), o1 32 (.bin .lss (.t 29) (.t 31))]) (.cond (.t 32) (.skip) (.exit 2))) (.seq (.block 3 (.seq (.region true [oM 35 4, oM 36 5, ⟨some 37, .ixS 1 (.t 35) (.t 36), [1, 0], none⟩, ⟨some 38, .load false 1 (.t 37), [2], none⟩, oM 39 4, oM 40 5, ⟨some 41, .bin .sub (.t 40) (kI 1), [5], none⟩, ⟨some 42, .ixS 1 (.t 39) (.t 41), [6, 4], none⟩, ⟨some 43, .load false 1 (.t 42), [7], none⟩, ⟨some 44, .bin .neq (.t 38) (.t 43), [8, 3], none⟩]) (.cond (.t 44) (.seq (.region false [oM 45 0, oM 46 3, oM 47 4, oM 48 5, o1 49 (.ixS 1 (.t 47) (.t 48)), oL 50 49, o1 51 (.ixS 1 (.t 45) (.t 46)), ⟨none, .store 1 (.t 51) (.t 50), [], none⟩]) (.region false [oM 52 3, o1 53 (.bin .add (.t 52) (kI 1)), oM 3 53])) (.skip)))) (.region false [oM 33 5, o1 34 (.bin .add (.t 33) (kI 1)), oM 5 34]))
def l20_0 : VCode := .seq (.seq (.region false [oM 10 3, oM 11 0, o1 12 (.blt .len [.t 11]), o1 13 (.bin .lss (.t 10) (.t 12))]) (.cond (.t 13) (.skip) (.exit 0))) (.seq (.block 1 (.seq (.region true [oM 16 0, oM 17 3, ⟨some 18, .ixS 1 (.t 16) (.t 17), [1, 0], none⟩, ⟨some 19, .load false 1 (.t 18), [2], none⟩, oM 20 0, oM 21 3, ⟨some 22, .bin .sub (.t 21) (kI 1), [5], none⟩, ⟨some 23, .ixS 1 (.t 20) (.t 22), [6, 4], none⟩, ⟨some 24, .load false 1 (.t 23), [7], none⟩, ⟨some 25, .bin .eql (.t 19) (.t 24), [8, 3], none⟩]) (.cond (.t 25) (.seq (.region false [oM 26 0, oM 27 3, o1 28 (.slS 1 (.t 26) (some (.t 27)) none none), oM 4 28]) (.seq (.seq (.region false [o1 5 (.mov none (kI 1))]) (.block 2 (.loop false [0, 3, 4, 5] l20_1))) (.seq (.region false [oM 54 0, oM 55 3, o1 56 (.slS 1 (.t 54) (some (.t 55)) none none), ⟨none, .blt (.clear [(.str ⟨#[]⟩)]) [.t 56], [], none⟩]) (.seq (.region false [oM 57 0, oM 58 3, o1 59 (.slS 1 (.t 57) none (some (.t 58)) none), oM 2 59]) (.ret))))) (.skip)))) (.region false [oM 14 3, o1 15 (.bin .add (.t 14) (kI 1)), oM 3 15]))
def b20 : VCode := .seq (.region false [o1 2 (.mov none kN)]) (.seq (.seq (.region false [oM 6 0, o1 7 (.blt .len [.t 6]), o1 8 (.bin .lss (.t 7) (kI 2))]) (.cond (.t 8) (.seq (.region false [oM 9 0, oM 2 9]) (.ret)) (.skip))) (.seq (.seq (.region false [o1 3 (.mov none (kI 1))]) (.block 0 (.loop false [0, 3] l20_0))) (.seq (.region false [oM 60 0, oM 2 60]) (.ret))))
def v20 : VFn := ⟨1, 61, [.t 2], b20⟩

theorem c20 : chkFn Try.prog 20 v20 = true := by kernel_rfl

/- scholia/suggest.All -/
def l21_0 : VCode := .seq (.region false [o1 11 (.bin .lss (.t 10) (.t 9))]) (.seq (.cond (.t 11) (.skip) (.exit 0)) (.seq (.block 1 (.seq (.region false [o1 12 (.ixS 2 (.t 8) (.t 10)), o1 13 (.load true 2 (.t 12)), o1 5 (.new [.iv (.str ⟨#[]⟩), vS]), ⟨none, .store 2 (.t 5) (.t 13), [], none⟩]) (.region false [oM 14 3, oF 15 0 5, oL 16 15, o1 17 (.mks false 1 [.t 16]), o1 18 (.blt (.append 1 16) [.t 14, .t 17]), oM 3 18]))) (.region false [o1 19 (.bin .add (.t 10) (kI 1)), oM 10 19])))
def b21 : VCode := .seq (.region false [o1 2 (.mov none (.k (.one (.iv .nilp))))]) (.seq (.region false [o1 3 (.mov (some 1) kN)]) (.seq (.seq (.region false [oM 8 0, o1 9 (.blt .len [.t 8]), o1 10 (.mov none (kI 0))]) (.block 0 (.loop false [3, 8, 9, 10] l21_0))) (.seq (.region false [oM 20 3, o1 21 (.call 19 [(true, .t 20)])]) (.seq (.region false [oM 23 3, o1 24 (.call 20 [(true, .t 23)]), o1 25 (.call 14 [(false, .t 24)]), oM 22 25, o1 26 (.ext 0 (.t 22)), o1 27 (.ext 1 (.t 22)), oM 6 26, oM 7 27]) (.seq (.seq (.region false [oM 28 7, o1 29 (.bin .neq (.t 28) (kI 0))]) (.cond (.t 29) (.seq (.region false [o1 30 (.build [vI, .fresh 1, .fresh 1] []), o1 31 (.box (.t 30)), oM 2 31]) (.ret)) (.skip))) (.seq (.region false [oM 32 6, oM 2 32]) (.ret)))))))
def v21 : VFn := ⟨1, 33, [.t 2], b21⟩

theorem c21 : chkFn Try.prog 21 v21 = true := by kernel_rfl

/- (*scholia/dict.Dict).Words -/
def l22_0 : VCode := .seq (.region false [o1 15 (.bin .lss (.t 14) (.t 13))]) (.seq (.cond (.t 15) (.skip) (.exit 0)) (.seq (.block 1 (.seq (.region false [oM 16 14, oM 4 16]) (.region false [oM 17 3, oM 18 0, oM 19 4, o1 20 (.call 40 [(false, .t 18), (false, .t 19)]), o1 21 (.blt (.append 1 16) [.t 17, .t 20]), oM 3 21]))) (.region false [o1 22 (.bin .add (.t 14) (kI 1)), oM 14 22])))
def b22 : VCode := .seq (.region false [o1 2 (.mov none kN)]) (.seq (.region false [o1 3 (.mov (some 1) kN)]) (.seq (.seq (.region false [oM 5 0, o1 6 (.call 39 [(false, .t 5)]), o1 7 (.bin .eql (.t 6) (kI 0))]) (.cond (.t 7) (.seq (.region false [oM 8 3, oM 2 8]) (.ret)) (.skip))) (.seq (.seq (.region false [oM 9 0, o1 10 (.nilc (.t 9)), oF 11 1 10, oL 12 11, o1 13 (.blt .len [.t 12]), o1 14 (.mov none (kI 0))]) (.block 0 (.loop false [0, 3, 13, 14] l22_0))) (.seq (.region false [oM 23 3, oM 2 23]) (.ret)))))
def v22 : VFn := ⟨1, 24, [.t 2], b22⟩

theorem c22 : chkFn Try.prog 22 v22 = true := by kernel_rfl

/- scholia/suggest.signs -/
def l25_0 : VCode := .seq (.seq (.region false [oM 7 4, oM 8 0, o1 9 (.blt .lenS [.t 8]), o1 10 (.bin .lss (.t 7) (.t 9))]) (.cond (.t 10) (.skip) (.exit 0))) (.block 1 (.seq (.region false [oM 12 0, oM 13 4, o1 14 (.call 43 [(false, .t 12), (false, .t 13)]), oM 11 14, o1 15 (.ext 0 (.t 11)), o1 16 (.ext 1 (.t 11)), oM 5 15, oM 6 16]) (.seq (.seq (.region false [oM 17 5, o1 18 (.bin .lss (.t 17) (kI 0))]) (.cond (.t 18) (.region false [oM 19 0, oM 20 4, o1 21 (.ixT (.t 19) (.t 20)), o1 22 (.conv .i64 (.t 21)), o1 23 (.bin .sub (.k (.one (.iv (.int .i64 (-1))))) (.t 22)), oM 5 23]) (.skip))) (.seq (.region false [oM 24 3, oM 25 5, o1 26 (.mks false 1 [.t 25]), o1 27 (.blt (.append 1 8) [.t 24, .t 26]), oM 3 27]) (.region false [oM 28 4, oM 29 6, o1 30 (.bin .add (.t 28) (.t 29)), oM 4 30])))))
def b25 : VCode := .seq (.region false [o1 2 (.mov none kN)]) (.seq (.region false [o1 3 (.mov (some 1) kN)]) (.seq (.seq (.region false [o1 4 (.mov none (kI 0))]) (.block 0 (.loop false [0, 3, 4] l25_0))) (.seq (.region false [oM 31 3, oM 2 31]) (.ret))))
def v25 : VFn := ⟨1, 32, [.t 2], b25⟩

theorem c25 : chkFn Try.prog 25 v25 = true := by kernel_rfl

/- scholia/suggest.row -/
def l26_0 : VCode := .seq (.seq (.region false [oM 16 12, oM 17 1, o1 18 (.blt .len [.t 17]), o1 19 (.bin .leq (.t 16) (.t 18))]) (.cond (.t 19) (.skip) (.exit 0))) (.seq (.block 1 (.seq (.region true [oM 22 3, oM 23 12, ⟨some 24, .ixS 1 (.t 22) (.t 23), [1, 0], none⟩, ⟨some 25, .load false 1 (.t 24), [2], none⟩, oM 26 11, oM 27 12, ⟨some 28, .bin .sub (.t 27) (kI 1), [5], none⟩, ⟨some 29, .ixS 1 (.t 26) (.t 28), [6, 4], none⟩, ⟨some 30, .load false 1 (.t 29), [7], none⟩, ⟨some 31, .blt .min [.t 25, .t 30], [8, 3], none⟩, ⟨some 32, .bin .add (.t 31) (kI 1), [9], none⟩, ⟨some 13, .mov none (.t 32), [10], none⟩]) (.seq (.seq (.region true [oM 33 0, oM 34 2, ⟨some 35, .bin .sub (.t 34) (kI 1), [1], none⟩, ⟨some 36, .ixS 1 (.t 33) (.t 35), [2, 0], none⟩, ⟨some 37, .load false 1 (.t 36), [3], none⟩, oM 38 1, oM 39 12, ⟨some 40, .bin .sub (.t 39) (kI 1), [6], none⟩, ⟨some 41, .ixS 1 (.t 38) (.t 40), [7, 5], none⟩, ⟨some 42, .load false 1 (.t 41), [8], none⟩, ⟨some 43, .bin .eql (.t 37) (.t 42), [9, 4], none⟩]) (.cond (.t 43) (.region false [oM 44 13, oM 45 3, oM 46 12, o1 47 (.bin .sub (.t 46) (kI 1)), o1 48 (.ixS 1 (.t 45) (.t 47)), oL 49 48, o1 50 (.blt .min [.t 44, .t 49]), oM 13 50]) (.region false [oM 51 13, oM 52 3, oM 53 12, o1 54 (.bin .sub (.t 53) (kI 1)), o1 55 (.ixS 1 (.t 52) (.t 54)), oL 56 55, o1 57 (.bin .add (.t 56) (kI 1)), o1 58 (.blt .min [.t 51, .t 57]), oM 13 58]))) (.seq (.seq (.region false [oM 59 0, oM 60 1, oM 61 2, oM 62 12, o1 63 (.call 44 [(false, .t 59), (false, .t 60), (false, .t 61), (false, .t 62)])]) (.cond (.t 63) (.region false [oM 64 13, oM 65 4, oM 66 12, o1 67 (.bin .sub (.t 66) (kI 2)), o1 68 (.ixS 1 (.t 65) (.t 67)), oL 69 68, o1 70 (.bin .add (.t 69) (kI 1)), o1 71 (.blt .min [.t 64, .t 70]), oM 13 71]) (.skip))) (.region false [oM 72 11, oM 73 13, o1 74 (.mks false 1 [.t 73]), o1 75 (.blt (.append 1 8) [.t 72, .t 74]), oM 11 75]))))) (.region false [oM 20 12, o1 21 (.bin .add (.t 20) (kI 1)), oM 12 21]))
def b26 : VCode := .seq (.region false [o1 10 (.mov none kN)]) (.seq (.region false [oM 14 2, o1 15 (.mks true 1 [.t 14]), oM 11 15]) (.seq (.seq (.region false [o1 12 (.mov none (kI 1))]) (.block 0 (.loop false [0, 1, 2, 3, 4, 11, 12] l26_0))) (.seq (.region false [oM 76 11, oM 10 76]) (.ret))))
def v26 : VFn := ⟨5, 77, [.t 10], b26⟩

theorem c26 : chkFn Try.prog 26 v26 = true := by kernel_rfl

/- (*scholia/dict.Dict).add -/
def b33 : VCode := .seq (.region false [oM 10 0, o1 11 (.nilc (.t 10)), oF 12 0 11, oL 13 12, o1 14 (.bin .add (.t 13) (kI 1)), o1 15 (.nilc (.t 10)), oF 16 0 15, ⟨none, .store 1 (.t 16) (.t 14), [], none⟩]) (.seq (.seq (.region false [oM 17 3, o1 18 (.bin .rem (.t 17) (kI 4)), o1 19 (.bin .eql (.t 18) (kI 0))]) (.cond (.t 19) (.seq (.region true [oM 20 0, oM 21 0, oM 22 0, ⟨some 23, .nilc (.t 22), [2], none⟩, ⟨some 24, .fad 1 (.t 23), [3], none⟩, ⟨some 25, .load false 1 (.t 24), [4], none⟩, oM 26 1, ⟨some 27, .mks false 1 [.t 26], [6], none⟩, ⟨some 28, .blt (.append 1 16) [.t 25, .t 27], [7, 5], none⟩, oM 29 0, ⟨some 30, .nilc (.t 29), [9], none⟩, ⟨some 31, .fad 2 (.t 30), [10], none⟩, ⟨some 32, .load false 1 (.t 31), [11], none⟩, o1 33 (.mks false 1 [.k (.one (.iv (.str ⟨#[]⟩)))]), ⟨some 34, .blt (.append 1 16) [.t 32, .t 33], [13, 12, 8], none⟩, ⟨some 35, .nilc (.t 20), [14, 0], none⟩, ⟨some 36, .fad 1 (.t 35), [15], none⟩, ⟨none, .store 1 (.t 36) (.t 28), [16], none⟩, ⟨some 37, .nilc (.t 21), [17, 1], none⟩, ⟨some 38, .fad 2 (.t 37), [18], none⟩, ⟨none, .store 1 (.t 38) (.t 34), [19], none⟩]) (.ret)) (.skip))) (.seq (.region false [oM 39 1, oM 40 2, o1 41 (.call 58 [(false, .t 39), (false, .t 40)]), oM 8 41]) (.seq (.region true [oM 42 8, ⟨some 43, .call 60 [(false, kN), (false, .t 42)], [0], none⟩, oM 44 1, oM 45 8, ⟨some 46, .slT (.t 44) (some (.t 45)) none, [3, 2], none⟩, ⟨some 47, .call 59 [(false, .t 43), (false, .t 46)], [4, 1], none⟩, ⟨some 9, .mov none (.t 47), [5], none⟩]) (.region true [oM 48 0, ⟨some 49, .nilc (.t 48), [0], none⟩, ⟨some 50, .fad 2 (.t 49), [1], none⟩, ⟨some 51, .load false 1 (.t 50), [2], none⟩, oM 52 0, ⟨some 53, .nilc (.t 52), [4], none⟩, ⟨some 54, .fad 2 (.t 53), [5], none⟩, ⟨some 55, .load false 1 (.t 54), [6], none⟩, ⟨some 56, .blt .len [.t 55], [7], none⟩, ⟨some 57, .bin .sub (.t 56) (kI 1), [8], none⟩, ⟨some 58, .ixS 1 (.t 51) (.t 57), [9, 3], none⟩, ⟨some 59, .load false 1 (.t 58), [10], none⟩, oM 60 9, ⟨some 61, .b2s (.t 60), [12], none⟩, ⟨some 62, .bin .add (.t 59) (.t 61), [13, 11], none⟩, ⟨some 63, .ixS 1 (.t 51) (.t 57), [14], none⟩, ⟨none, .store 1 (.t 63) (.t 62), [15], none⟩]))))
def v33 : VFn := ⟨4, 64, [], b33⟩

theorem c33 : chkFn Try.prog 33 v33 = true := by kernel_rfl

/- (*scholia/dict.Dict).Len -/
def b39 : VCode := .seq (.region false [o1 2 (.mov none (kI 0))]) (.seq (.seq (.region false [oM 3 0, o1 4 (.eqs .eql .ptr (.t 3) (.k (.one (.iv .nilp))))]) (.cond (.t 4) (.seq (.region false [o1 2 (.mov none (kI 0))]) (.ret)) (.skip))) (.seq (.region false [oM 5 0, o1 6 (.nilc (.t 5)), oF 7 0 6, oL 8 7, oM 2 8]) (.ret)))
def v39 : VFn := ⟨1, 9, [.t 2], b39⟩

theorem c39 : chkFn Try.prog 39 v39 = true := by kernel_rfl

/- (*scholia/dict.Dict).block -/
def l40_0 : VCode := .seq (.seq (.region false [oM 27 7, o1 28 (.call 74 [(false, .t 27)]), o1 29 (.bin .gtr (.t 28) (kI 0))]) (.cond (.t 29) (.skip) (.exit 0))) (.block 1 (.seq (.region false [oM 30 7, oM 31 5, o1 32 (.blt .lenS [.t 31]), o1 33 (.call 75 [(false, .t 30), (false, .t 32)]), oM 8 33]) (.seq (.region true [oM 34 5, oM 35 8, ⟨some 36, .slT (.t 34) none (some (.t 35)), [1, 0], none⟩, oM 37 7, ⟨some 38, .call 76 [(false, .t 37), (false, kI 64)], [3], none⟩, ⟨some 39, .bin .add (.t 36) (.t 38), [4, 2], none⟩, ⟨some 5, .mov none (.t 39), [5], none⟩]) (.region false [oM 40 6, oM 41 5, o1 42 (.mks false 1 [.t 41]), o1 43 (.blt (.append 1 16) [.t 40, .t 42]), oM 6 43]))))
def b40 : VCode := .seq (.region false [o1 4 (.mov none kN)]) (.seq (.region false [oM 9 0, o1 10 (.nilc (.t 9)), oF 11 1 10, oL 12 11, oM 13 1, o1 14 (.ixS 1 (.t 12) (.t 13)), oL 15 14, oM 5 15]) (.seq (.region false [oM 16 5, o1 17 (.mks true 1 [.t 16]), oM 6 17]) (.seq (.seq (.region false [oM 18 0, o1 19 (.nilc (.t 18)), oF 20 2 19, oL 21 20, oM 22 1, o1 23 (.ixS 1 (.t 21) (.t 22)), oL 24 23, o1 25 (.s2b (.t 24)), o1 26 (.call 73 [(false, .t 25)]), oM 7 26]) (.block 0 (.loop false [5, 6, 7] l40_0))) (.seq (.region false [oM 44 6, oM 4 44]) (.ret)))))
def v40 : VFn := ⟨2, 45, [.t 4], b40⟩

theorem c40 : chkFn Try.prog 40 v40 = true := by kernel_rfl

/- scholia/utf.Next -/
def l43_0 : VCode := .seq (.region false [o1 47 (.bin .lss (.t 46) (.t 45))]) (.seq (.cond (.t 47) (.skip) (.exit 0)) (.seq (.block 1 (.seq (.region false [o1 48 (.ixS 1 (.t 44) (.t 46)), oL 49 48, oM 9 49]) (.seq (.seq (.region false [oM 50 9, o1 51 (.bin .and (.t 50) (.k (.one (.iv (.int .u8 192))))), o1 52 (.bin .neq (.t 51) (.k (.one (.iv (.int .u8 128)))))]) (.cond (.t 52) (.seq (.region false [o1 4 (.mov none (.k (.one (.iv (.int .i64 (-1)))))), o1 5 (.mov none (kI 1))]) (.ret)) (.skip))) (.region false [oM 53 7, o1 54 (.bin .shl (.t 53) (.k (.one (.iv (.int .u64 6))))), oM 55 9, o1 56 (.bin .and (.t 55) (.k (.one (.iv (.int .u8 63))))), o1 57 (.conv .i64 (.t 56)), o1 58 (.bin .or (.t 54) (.t 57)), oM 7 58])))) (.region false [o1 59 (.bin .add (.t 46) (kI 1)), oM 46 59])))
def b43 : VCode := .seq (.region false [o1 4 (.mov none (kI 0)), o1 5 (.mov none (kI 0))]) (.seq (.seq (.region false [oM 10 1, o1 11 (.bin .lss (.t 10) (kI 0)), oM 12 11, oG 13 (.mov none (.t 1)) 12 false, oG 14 (.mov none (.t 0)) 12 false, oG 15 (.blt .lenS [.t 14]) 12 false, oG 16 (.bin .geq (.t 13) (.t 15)) 12 false, o1 17 (.pick (.t 12) (kB true) (.t 16))]) (.cond (.t 17) (.seq (.region false [o1 4 (.mov none (.k (.one (.iv (.int .i64 (-1)))))), o1 5 (.mov none (kI 0))]) (.ret)) (.skip))) (.seq (.region false [oM 18 0, oM 19 1, o1 20 (.ixT (.t 18) (.t 19)), o1 21 (.call 78 [(false, .t 20)]), o1 6 (.new [vI, vI, vI]), ⟨none, .store 3 (.t 6) (.t 21), [], none⟩]) (.seq (.seq (.region false [oF 22 0 6, oL 23 22, o1 24 (.bin .eql (.t 23) (kI 0)), oM 25 24, oG 26 (.fad 0 (.t 6)) 25 false, oG 27 (.load false 1 (.t 26)) 25 false, oG 28 (.mov none (.t 0)) 25 false, oG 29 (.blt .lenS [.t 28]) 25 false, oG 30 (.mov none (.t 1)) 25 false, oG 31 (.bin .sub (.t 29) (.t 30)) 25 false, oG 32 (.bin .gtr (.t 27) (.t 31)) 25 false, o1 33 (.pick (.t 25) (kB true) (.t 32))]) (.cond (.t 33) (.seq (.region false [o1 4 (.mov none (.k (.one (.iv (.int .i64 (-1)))))), o1 5 (.mov none (kI 1))]) (.ret)) (.skip))) (.seq (.region false [oF 34 1 6, oL 35 34, oM 7 35]) (.seq (.seq (.region false [oM 36 0, oM 37 1, o1 38 (.bin .add (.t 37) (kI 1)), oM 39 1, oF 40 0 6, oL 41 40, o1 42 (.bin .add (.t 39) (.t 41)), o1 43 (.slT (.t 36) (some (.t 38)) (some (.t 42))), o1 44 (.s2b (.t 43)), o1 45 (.blt .len [.t 44]), o1 46 (.mov none (kI 0))]) (.block 0 (.loop false [6, 7, 44, 45, 46] l43_0))) (.seq (.seq (.region false [oM 60 7, oF 61 2 6, oL 62 61, o1 63 (.bin .lss (.t 60) (.t 62)), oM 64 63, oG 65 (.mov none (.t 7)) 64 false, oG 66 (.call 79 [(false, .t 65)]) 64 false, oG 67 (.un .not (.t 66)) 64 false, o1 68 (.pick (.t 64) (kB true) (.t 67))]) (.cond (.t 68) (.seq (.region false [o1 4 (.mov none (.k (.one (.iv (.int .i64 (-1)))))), o1 5 (.mov none (kI 1))]) (.ret)) (.skip))) (.seq (.region true [oM 69 7, oF 70 0 6, ⟨some 71, .load false 1 (.t 70), [1], none⟩, ⟨some 4, .mov none (.t 69), [0], none⟩, ⟨some 5, .mov none (.t 71), [3, 2], none⟩]) (.ret))))))))
def v43 : VFn := ⟨2, 72, [.t 4, .t 5], b43⟩

theorem c43 : chkFn Try.prog 43 v43 = true := by kernel_rfl

/- scholia/suggest.swapped -/
def b44 : VCode := .seq (.region false [o1 8 (.mov none (kB false))]) (.seq (.region true [oM 9 2, ⟨some 10, .bin .gtr (.t 9) (kI 1), [0], none⟩, ⟨some 11, .mov none (.t 10), [1], none⟩, ⟨some 12, .mov none (.t 3), [2], some (11, true)⟩, ⟨some 13, .bin .gtr (.t 12) (kI 1), [3], some (11, true)⟩, ⟨some 14, .pick (.t 11) (.t 13) (kB false), [4], none⟩, ⟨some 15, .mov none (.t 14), [5], none⟩, ⟨some 16, .mov none (.t 0), [6], some (15, true)⟩, ⟨some 17, .mov none (.t 2), [6], some (15, true)⟩, ⟨some 18, .bin .sub (.t 17) (kI 1), [8], some (15, true)⟩, ⟨some 19, .ixS 1 (.t 16) (.t 18), [9, 7], some (15, true)⟩, ⟨some 20, .load false 1 (.t 19), [10], some (15, true)⟩, ⟨some 21, .mov none (.t 1), [6], some (15, true)⟩, ⟨some 22, .mov none (.t 3), [6], some (15, true)⟩, ⟨some 23, .bin .sub (.t 22) (kI 2), [13], some (15, true)⟩, ⟨some 24, .ixS 1 (.t 21) (.t 23), [14, 12], some (15, true)⟩, ⟨some 25, .load false 1 (.t 24), [15], some (15, true)⟩, ⟨some 26, .bin .eql (.t 20) (.t 25), [16, 11], some (15, true)⟩, ⟨some 27, .pick (.t 15) (.t 26) (kB false), [17], none⟩, ⟨some 28, .mov none (.t 27), [18], none⟩, ⟨some 29, .mov none (.t 0), [19], some (28, true)⟩, ⟨some 30, .mov none (.t 2), [19], some (28, true)⟩, ⟨some 31, .bin .sub (.t 30) (kI 2), [21], some (28, true)⟩, ⟨some 32, .ixS 1 (.t 29) (.t 31), [22, 20], some (28, true)⟩, ⟨some 33, .load false 1 (.t 32), [23], some (28, true)⟩, ⟨some 34, .mov none (.t 1), [19], some (28, true)⟩, ⟨some 35, .mov none (.t 3), [19], some (28, true)⟩, ⟨some 36, .bin .sub (.t 35) (kI 1), [26], some (28, true)⟩, ⟨some 37, .ixS 1 (.t 34) (.t 36), [27, 25], some (28, true)⟩, ⟨some 38, .load false 1 (.t 37), [28], some (28, true)⟩, ⟨some 39, .bin .eql (.t 33) (.t 38), [29, 24], some (28, true)⟩, ⟨some 40, .pick (.t 28) (.t 39) (kB false), [30], none⟩, ⟨some 8, .mov none (.t 40), [31], none⟩]) (.ret))
def v44 : VFn := ⟨4, 41, [.t 8], b44⟩

theorem c44 : chkFn Try.prog 44 v44 = true := by kernel_rfl

/- scholia/dict.like -/
def l58_0 : VCode := .seq (.seq (.region true [oM 6 5, oM 7 0, ⟨some 8, .blt .lenS [.t 7], [1], none⟩, oM 9 1, ⟨some 10, .blt .lenS [.t 9], [3], none⟩, ⟨some 11, .blt .min [.t 8, .t 10], [4, 2], none⟩, ⟨some 12, .bin .lss (.t 6) (.t 11), [5, 0], none⟩, ⟨some 13, .mov none (.t 12), [6], none⟩, ⟨some 14, .mov none (.t 0), [7], some (13, true)⟩, ⟨some 15, .mov none (.t 5), [7], some (13, true)⟩, ⟨some 16, .ixT (.t 14) (.t 15), [9, 8], some (13, true)⟩, ⟨some 17, .mov none (.t 1), [7], some (13, true)⟩, ⟨some 18, .mov none (.t 5), [7], some (13, true)⟩, ⟨some 19, .ixT (.t 17) (.t 18), [12, 11], some (13, true)⟩, ⟨some 20, .bin .eql (.t 16) (.t 19), [13, 10], some (13, true)⟩, ⟨some 21, .pick (.t 13) (.t 20) (kB false), [14], none⟩]) (.cond (.t 21) (.skip) (.exit 0))) (.block 1 (.region false [oM 22 5, o1 23 (.bin .add (.t 22) (kI 1)), oM 5 23]))
def b58 : VCode := .seq (.region false [o1 4 (.mov none (kI 0))]) (.seq (.region false [o1 5 (.mov none (kI 0))]) (.seq (.block 0 (.loop false [0, 1, 5] l58_0)) (.seq (.region false [oM 24 5, oM 4 24]) (.ret))))
def v58 : VFn := ⟨2, 25, [.t 4], b58⟩

theorem c58 : chkFn Try.prog 58 v58 = true := by kernel_rfl

/- scholia/coder.Text -/
def b59 : VCode := .seq (.region false [o1 4 (.mov none kN)]) (.seq (.region false [oM 5 0, oM 6 1, o1 7 (.blt .lenS [.t 6]), o1 8 (.call 60 [(false, .t 5), (false, .t 7)]), oM 9 1, o1 10 (.blt (.append 1 1) [.t 8, .t 9]), oM 4 10]) (.ret))
def v59 : VFn := ⟨2, 11, [.t 4], b59⟩

theorem c59 : chkFn Try.prog 59 v59 = true := by kernel_rfl

/- scholia/coder.Num -/
def l60_0 : VCode := .seq (.seq (.region false [oM 41 8, o1 42 (.bin .geq (.t 41) (kI 0))]) (.cond (.t 42) (.skip) (.exit 0))) (.seq (.block 1 (.region false [oM 45 7, oM 46 5, oM 47 8, o1 48 (.bin .mul (kI 8) (.t 47)), o1 49 (.bin .shr (.t 46) (.t 48)), o1 50 (.conv .u8 (.t 49)), o1 51 (.mks false 1 [.t 50]), o1 52 (.blt (.append 1 1) [.t 45, .t 51]), oM 7 52])) (.region false [oM 43 8, o1 44 (.bin .sub (.t 43) (kI 1)), oM 8 44]))
def b60 : VCode := .seq (.region false [o1 4 (.mov none kN)]) (.seq (.region false [oM 9 1, o1 10 (.blt .max [.t 9, kI 0]), o1 11 (.conv .u64 (.t 10)), oM 5 11]) (.seq (.region false [oM 12 5, o1 13 (.call 88 [(false, .t 12)]), oM 6 13]) (.seq (.region true [oM 14 0, oM 15 0, ⟨some 16, .blt .len [.t 15], [1], none⟩, oM 17 0, ⟨some 18, .blt .len [.t 17], [3], none⟩, ⟨some 19, .slS 1 (.t 14) none (some (.t 16)) (some (.t 18)), [4, 2, 0], none⟩, oM 20 6, ⟨some 21, .bin .shr (.k (.one (.iv (.int .u64 65280)))) (.t 20), [6], none⟩, ⟨some 22, .conv .u8 (.t 21), [7], none⟩, ⟨some 23, .mks false 1 [.t 22], [8], none⟩, ⟨some 24, .blt (.append 1 1) [.t 19, .t 23], [9, 5], none⟩, ⟨some 7, .mov none (.t 24), [10], none⟩]) (.seq (.seq (.region false [oM 25 6, o1 26 (.bin .lss (.t 25) (kI 8))]) (.cond (.t 26) (.region true [oM 27 7, oM 28 0, ⟨some 29, .blt .len [.t 28], [1], none⟩, ⟨some 30, .ixS 1 (.t 27) (.t 29), [2, 0], none⟩, ⟨some 31, .load false 1 (.t 30), [3], none⟩, oM 32 5, oM 33 6, ⟨some 34, .bin .mul (kI 8) (.t 33), [6], none⟩, ⟨some 35, .bin .shr (.t 32) (.t 34), [7, 5], none⟩, ⟨some 36, .conv .u8 (.t 35), [8], none⟩, ⟨some 37, .bin .or (.t 31) (.t 36), [9, 4], none⟩, ⟨some 38, .ixS 1 (.t 27) (.t 29), [10], none⟩, ⟨none, .store 1 (.t 38) (.t 37), [11], none⟩]) (.skip))) (.seq (.seq (.region false [oM 39 6, o1 40 (.bin .sub (.t 39) (kI 1)), oM 8 40]) (.block 0 (.loop false [5, 7, 8] l60_0))) (.seq (.region false [oM 53 7, oM 4 53]) (.ret)))))))
def v60 : VFn := ⟨2, 54, [.t 4], b60⟩

theorem c60 : chkFn Try.prog 60 v60 = true := by kernel_rfl

/- math/bits.Len32 -/
def b71 : VCode := .seq (.region false [o1 2 (.mov none (kI 0))]) (.seq (.seq (.region false [oM 3 0, o1 4 (.bin .geq (.t 3) (.k (.one (.iv (.int .u32 65536)))))]) (.cond (.t 4) (.seq (.region false [oM 5 0, o1 6 (.bin .shr (.t 5) (.k (.one (.iv (.int .u64 16))))), oM 0 6]) (.region false [o1 2 (.mov none (kI 16))])) (.skip))) (.seq (.seq (.region false [oM 7 0, o1 8 (.bin .geq (.t 7) (.k (.one (.iv (.int .u32 256)))))]) (.cond (.t 8) (.seq (.region false [oM 9 0, o1 10 (.bin .shr (.t 9) (.k (.one (.iv (.int .u64 8))))), oM 0 10]) (.region false [oM 11 2, o1 12 (.bin .add (.t 11) (kI 8)), oM 2 12])) (.skip))) (.seq (.region false [oM 13 2, oM 14 0, o1 15 (.conv .u8 (.t 14)), o1 16 (.ixT (.k (.one (.iv (.str ⟨#[0, 1, 2, 2, 3, 3, 3, 3, 4, 4, 4, 4, 4, 4, 4, 4, 5, 5, 5, 5, 5, 5, 5, 5, 5, 5, 5, 5, 5, 5, 5, 5, 6, 6, 6, 6, 6, 6, 6, 6, 6, 6, 6, 6, 6, 6, 6, 6, 6, 6, 6, 6, 6, 6, 6, 6, 6, 6, 6, 6, 6, 6, 6, 6, 7, 7, 7, 7, 7, 7, 7, 7, 7, 7, 7, 7, 7, 7, 7, 7, 7, 7, 7, 7, 7, 7, 7, 7, 7, 7, 7, 7, 7, 7, 7, 7, 7, 7, 7, 7, 7, 7, 7, 7, 7, 7, 7, 7, 7, 7, 7, 7, 7, 7, 7, 7, 7, 7, 7, 7, 7, 7, 7, 7, 7, 7, 7, 7, 8, 8, 8, 8, 8, 8, 8, 8, 8, 8, 8, 8, 8, 8, 8, 8, 8, 8, 8, 8, 8, 8, 8, 8, 8, 8, 8, 8, 8, 8, 8, 8, 8, 8, 8, 8, 8, 8, 8, 8, 8, 8, 8, 8, 8, 8, 8, 8, 8, 8, 8, 8, 8, 8, 8, 8, 8, 8, 8, 8, 8, 8, 8, 8, 8, 8, 8, 8, 8, 8, 8, 8, 8, 8, 8, 8, 8, 8, 8, 8, 8, 8, 8, 8, 8, 8, 8, 8, 8, 8, 8, 8, 8, 8, 8, 8, 8, 8, 8, 8, 8, 8, 8, 8, 8, 8, 8, 8, 8, 8, 8, 8, 8, 8, 8, 8, 8, 8, 8, 8, 8, 8, 8, 8, 8, 8, 8, 8]⟩)))) (.t 15)), o1 17 (.conv .i64 (.t 16)), o1 18 (.bin .add (.t 13) (.t 17)), oM 2 18]) (.ret))))
def v71 : VFn := ⟨1, 19, [.t 2], b71⟩

theorem c71 : chkFn Try.prog 71 v71 = true := by kernel_rfl

/- math/bits.Len64 -/
def b72 : VCode := .seq (.region false [o1 2 (.mov none (kI 0))]) (.seq (.seq (.region false [oM 3 0, o1 4 (.bin .geq (.t 3) (.k (.one (.iv (.int .u64 4294967296)))))]) (.cond (.t 4) (.seq (.region false [oM 5 0, o1 6 (.bin .shr (.t 5) (.k (.one (.iv (.int .u64 32))))), oM 0 6]) (.region false [o1 2 (.mov none (kI 32))])) (.skip))) (.seq (.seq (.region false [oM 7 0, o1 8 (.bin .geq (.t 7) (.k (.one (.iv (.int .u64 65536)))))]) (.cond (.t 8) (.seq (.region false [oM 9 0, o1 10 (.bin .shr (.t 9) (.k (.one (.iv (.int .u64 16))))), oM 0 10]) (.region false [oM 11 2, o1 12 (.bin .add (.t 11) (kI 16)), oM 2 12])) (.skip))) (.seq (.seq (.region false [oM 13 0, o1 14 (.bin .geq (.t 13) (.k (.one (.iv (.int .u64 256)))))]) (.cond (.t 14) (.seq (.region false [oM 15 0, o1 16 (.bin .shr (.t 15) (.k (.one (.iv (.int .u64 8))))), oM 0 16]) (.region false [oM 17 2, o1 18 (.bin .add (.t 17) (kI 8)), oM 2 18])) (.skip))) (.seq (.region false [oM 19 2, oM 20 0, o1 21 (.conv .u8 (.t 20)), o1 22 (.ixT (.k (.one (.iv (.str ⟨#[0, 1, 2, 2, 3, 3, 3, 3, 4, 4, 4, 4, 4, 4, 4, 4, 5, 5, 5, 5, 5, 5, 5, 5, 5, 5, 5, 5, 5, 5, 5, 5, 6, 6, 6, 6, 6, 6, 6, 6, 6, 6, 6, 6, 6, 6, 6, 6, 6, 6, 6, 6, 6, 6, 6, 6, 6, 6, 6, 6, 6, 6, 6, 6, 7, 7, 7, 7, 7, 7, 7, 7, 7, 7, 7, 7, 7, 7, 7, 7, 7, 7, 7, 7, 7, 7, 7, 7, 7, 7, 7, 7, 7, 7, 7, 7, 7, 7, 7, 7, 7, 7, 7, 7, 7, 7, 7, 7, 7, 7, 7, 7, 7, 7, 7, 7, 7, 7, 7, 7, 7, 7, 7, 7, 7, 7, 7, 7, 8, 8, 8, 8, 8, 8, 8, 8, 8, 8, 8, 8, 8, 8, 8, 8, 8, 8, 8, 8, 8, 8, 8, 8, 8, 8, 8, 8, 8, 8, 8, 8, 8, 8, 8, 8, 8, 8, 8, 8, 8, 8, 8, 8, 8, 8, 8, 8, 8, 8, 8, 8, 8, 8, 8, 8, 8, 8, 8, 8, 8, 8, 8, 8, 8, 8, 8, 8, 8, 8, 8, 8, 8, 8, 8, 8, 8, 8, 8, 8, 8, 8, 8, 8, 8, 8, 8, 8, 8, 8, 8, 8, 8, 8, 8, 8, 8, 8, 8, 8, 8, 8, 8, 8, 8, 8, 8, 8, 8, 8, 8, 8, 8, 8, 8, 8, 8, 8, 8, 8, 8, 8, 8, 8, 8, 8, 8, 8]⟩)))) (.t 21)), o1 23 (.conv .i64 (.t 22)), o1 24 (.bin .add (.t 19) (.t 23)), oM 2 24]) (.ret)))))
def v72 : VFn := ⟨1, 25, [.t 2], b72⟩

theorem c72 : chkFn Try.prog 72 v72 = true := by kernel_rfl

/- scholia/coder.Read -/
def b73 : VCode := .seq (.region false [o1 2 (.mov none (.k (.one (.iv .nilp))))]) (.seq (.region false [oM 3 0, o1 4 (.blt (.append 1 1) [kN, .t 3]), o1 5 (.build [vS, vI, .iv (.bool false)] [(0, 1, .t 4), (2, 1, .k (.one (.iv (.bool true))))]), o1 6 (.box (.t 5)), oM 2 6]) (.ret))
def v73 : VFn := ⟨1, 7, [.t 2], b73⟩

theorem c73 : chkFn Try.prog 73 v73 = true := by kernel_rfl

/- (*scholia/coder.In).Left -/
def b74 : VCode := .seq (.region false [o1 2 (.mov none (kI 0))]) (.seq (.seq (.region false [oM 3 0, o1 4 (.eqs .eql .ptr (.t 3) (.k (.one (.iv .nilp))))]) (.cond (.t 4) (.seq (.region false [o1 2 (.mov none (kI 0))]) (.ret)) (.skip))) (.seq (.region false [oM 5 0, o1 6 (.nilc (.t 5)), oF 7 0 6, oL 8 7, o1 9 (.blt .len [.t 8]), oM 2 9]) (.ret)))
def v74 : VFn := ⟨1, 10, [.t 2], b74⟩

theorem c74 : chkFn Try.prog 74 v74 = true := by kernel_rfl

/- (*scholia/coder.In).Num -/
def b75 : VCode := .seq (.region false [o1 4 (.mov none (kI 0))]) (.seq (.region false [oM 8 0, o1 9 (.call 95 [(false, .t 8)]), oM 7 9, o1 10 (.ext 0 (.t 7)), o1 11 (.ext 1 (.t 7)), oM 5 10, oM 6 11]) (.seq (.seq (.region false [oM 12 6, o1 13 (.un .not (.t 12))]) (.cond (.t 13) (.seq (.region false [o1 4 (.mov none (kI 0))]) (.ret)) (.skip))) (.seq (.seq (.region false [oM 14 5, o1 15 (.bin .shr (.t 14) (.k (.one (.iv (.int .u64 63))))), o1 16 (.bin .eql (.t 15) (.k (.one (.iv (.int .u64 1))))), oM 17 16, oG 18 (.mov none (.t 5)) 17 false, oG 19 (.conv .i64 (.t 18)) 17 false, oG 20 (.mov none (.t 1)) 17 false, oG 21 (.bin .gtr (.t 19) (.t 20)) 17 false, o1 22 (.pick (.t 17) (kB true) (.t 21))]) (.cond (.t 22) (.seq (.region false [oM 23 0, o1 24 (.call 96 [(false, .t 23), (false, kI 5)])]) (.seq (.region false [o1 4 (.mov none (kI 0))]) (.ret))) (.skip))) (.seq (.region false [oM 25 5, o1 26 (.conv .i64 (.t 25)), oM 4 26]) (.ret)))))
def v75 : VFn := ⟨2, 27, [.t 4], b75⟩

theorem c75 : chkFn Try.prog 75 v75 = true := by kernel_rfl

/- (*scholia/coder.In).Text -/
def b76 : VCode := .seq (.region false [o1 4 (.mov none (.k (.one (.iv (.str ⟨#[]⟩)))))]) (.seq (.region false [oM 8 0, oM 9 0, oM 10 1, o1 11 (.call 75 [(false, .t 9), (false, .t 10)]), o1 12 (.call 97 [(false, .t 8), (false, .t 11)]), oM 7 12, o1 13 (.ext 0 (.t 7)), o1 14 (.ext 1 (.t 7)), oM 5 13, oM 6 14]) (.seq (.region false [oM 15 5, o1 16 (.b2s (.t 15)), oM 4 16]) (.ret)))
def v76 : VFn := ⟨2, 17, [.t 4], b76⟩

theorem c76 : chkFn Try.prog 76 v76 = true := by kernel_rfl

/- scholia/utf.first -/
def b78 : VCode := .seq (.region false [o1 2 (.new [vI, vI, vI])]) (.seq (.block 0 (.seq (.region false [oM 4 0, o1 5 (.bin .lss (.t 4) (.k (.one (.iv (.int .u8 128))))), oM 3 5]) (.cond (.t 3) (.seq (.region false [oM 6 0, o1 7 (.conv .i64 (.t 6)), o1 8 (.build [vI, vI, vI] [(0, 1, kI 1), (1, 1, .t 7), (2, 1, kI 0)]), ⟨none, .store 3 (.t 2) (.t 8), [], none⟩]) (.ret)) (.seq (.region false [oM 10 0, o1 11 (.bin .lss (.t 10) (.k (.one (.iv (.int .u8 192))))), oM 9 11]) (.cond (.t 9) (.seq (.region false [o1 12 (.build [vI, vI, vI] []), ⟨none, .store 3 (.t 2) (.t 12), [], none⟩]) (.ret)) (.seq (.region false [oM 14 0, o1 15 (.bin .lss (.t 14) (.k (.one (.iv (.int .u8 224))))), oM 13 15]) (.cond (.t 13) (.seq (.region false [oM 16 0, o1 17 (.bin .and (.t 16) (.k (.one (.iv (.int .u8 31))))), o1 18 (.conv .i64 (.t 17)), o1 19 (.build [vI, vI, vI] [(0, 1, kI 2), (1, 1, .t 18), (2, 1, kI 128)]), ⟨none, .store 3 (.t 2) (.t 19), [], none⟩]) (.ret)) (.seq (.region false [oM 21 0, o1 22 (.bin .lss (.t 21) (.k (.one (.iv (.int .u8 240))))), oM 20 22]) (.cond (.t 20) (.seq (.region false [oM 23 0, o1 24 (.bin .and (.t 23) (.k (.one (.iv (.int .u8 15))))), o1 25 (.conv .i64 (.t 24)), o1 26 (.build [vI, vI, vI] [(0, 1, kI 3), (1, 1, .t 25), (2, 1, kI 2048)]), ⟨none, .store 3 (.t 2) (.t 26), [], none⟩]) (.ret)) (.seq (.region false [oM 28 0, o1 29 (.bin .lss (.t 28) (.k (.one (.iv (.int .u8 248))))), oM 27 29]) (.cond (.t 27) (.seq (.region false [oM 30 0, o1 31 (.bin .and (.t 30) (.k (.one (.iv (.int .u8 7))))), o1 32 (.conv .i64 (.t 31)), o1 33 (.build [vI, vI, vI] [(0, 1, kI 4), (1, 1, .t 32), (2, 1, kI 65536)]), ⟨none, .store 3 (.t 2) (.t 33), [], none⟩]) (.ret)) (.skip)))))))))))) (.seq (.region false [o1 34 (.build [vI, vI, vI] []), ⟨none, .store 3 (.t 2) (.t 34), [], none⟩]) (.ret)))
def v78 : VFn := ⟨1, 35, [.c 2 true 3], b78⟩

theorem c78 : chkFn Try.prog 78 v78 = true := by kernel_rfl

/- scholia/utf.Sign -/
def b79 : VCode := .seq (.region false [o1 2 (.mov none (kB false))]) (.seq (.region false [oM 3 0, o1 4 (.bin .geq (.t 3) (kI 0)), oM 5 4, oG 6 (.mov none (.t 0)) 5 true, oG 7 (.bin .leq (.t 6) (kI 1114111)) 5 true, o1 8 (.pick (.t 5) (.t 7) (kB false)), oM 9 8, oG 10 (.mov none (.t 0)) 9 true, oG 11 (.bin .lss (.t 10) (kI 55296)) 9 true, oG 12 (.mov none (.t 11)) 9 true, oG 13 (.mov none (.t 0)) 12 false, oG 14 (.bin .gtr (.t 13) (kI 57343)) 12 false, oG 15 (.pick (.t 12) (kB true) (.t 14)) 9 true, o1 16 (.pick (.t 9) (.t 15) (kB false)), oM 2 16]) (.ret))
def v79 : VFn := ⟨1, 17, [.t 2], b79⟩

theorem c79 : chkFn Try.prog 79 v79 = true := by kernel_rfl

/- scholia/coder.need -/
def b88 : VCode := .seq (.region false [o1 2 (.mov none (kI 0))]) (.seq (.region false [oM 4 0, o1 5 (.call 72 [(false, .t 4)]), oM 3 5]) (.seq (.seq (.region false [oM 6 3, o1 7 (.bin .gtr (.t 6) (kI 56))]) (.cond (.t 7) (.seq (.region false [o1 2 (.mov none (kI 8))]) (.ret)) (.skip))) (.seq (.region false [oM 8 3, o1 9 (.bin .sub (.t 8) (kI 1)), o1 10 (.blt .max [.t 9, kI 0]), o1 11 (.bin .quo (.t 10) (kI 7)), oM 2 11]) (.ret))))
def v88 : VFn := ⟨1, 12, [.t 2], b88⟩

theorem c88 : chkFn Try.prog 88 v88 = true := by kernel_rfl

/- (*scholia/coder.In).raw -/
def l95_0 : VCode := .seq (.region false [o1 42 (.bin .lss (.t 41) (.t 40))]) (.seq (.cond (.t 42) (.skip) (.exit 0)) (.seq (.block 1 (.seq (.region false [o1 43 (.ixS 1 (.t 39) (.t 41)), oL 44 43, oM 9 44]) (.region false [oM 45 7, o1 46 (.bin .shl (.t 45) (.k (.one (.iv (.int .u64 8))))), oM 47 9, o1 48 (.conv .u64 (.t 47)), o1 49 (.bin .or (.t 46) (.t 48)), oM 7 49]))) (.region false [o1 50 (.bin .add (.t 41) (kI 1)), oM 41 50])))
def b95 : VCode := .seq (.region false [o1 2 (.mov none (.k (.one (.iv (.int .u64 0))))), o1 3 (.mov none (kB false))]) (.seq (.region false [oM 11 0, o1 12 (.call 97 [(false, .t 11), (false, kI 1)]), oM 10 12, o1 13 (.ext 0 (.t 10)), o1 14 (.ext 1 (.t 10)), oM 4 13, oM 5 14]) (.seq (.seq (.region false [oM 15 5, o1 16 (.un .not (.t 15))]) (.cond (.t 16) (.seq (.region false [o1 2 (.mov none (.k (.one (.iv (.int .u64 0))))), o1 3 (.mov none (kB false))]) (.ret)) (.skip))) (.seq (.region false [oM 17 4, o1 18 (.ixS 1 (.t 17) (kI 0)), oL 19 18, o1 20 (.un .xor (.t 19)), o1 21 (.call 101 [(false, .t 20)]), oM 6 21]) (.seq (.region false [o1 7 (.mov none (.k (.one (.iv (.int .u64 0)))))]) (.seq (.seq (.region false [oM 22 6, o1 23 (.bin .lss (.t 22) (kI 8))]) (.cond (.t 23) (.region true [oM 24 4, ⟨some 25, .ixS 1 (.t 24) (kI 0), [0], none⟩, ⟨some 26, .load false 1 (.t 25), [1], none⟩, oM 27 6, ⟨some 28, .bin .shr (.k (.one (.iv (.int .u8 255)))) (.t 27), [3], none⟩, ⟨some 29, .bin .and (.t 26) (.t 28), [4, 2], none⟩, ⟨some 30, .conv .u64 (.t 29), [5], none⟩, ⟨some 7, .mov none (.t 30), [6], none⟩]) (.skip))) (.seq (.region false [oM 32 0, oM 33 6, o1 34 (.call 97 [(false, .t 32), (false, .t 33)]), oM 31 34, o1 35 (.ext 0 (.t 31)), o1 36 (.ext 1 (.t 31)), oM 4 35, oM 5 36]) (.seq (.seq (.region false [oM 37 5, o1 38 (.un .not (.t 37))]) (.cond (.t 38) (.seq (.region false [o1 2 (.mov none (.k (.one (.iv (.int .u64 0))))), o1 3 (.mov none (kB false))]) (.ret)) (.skip))) (.seq (.seq (.region false [oM 39 4, o1 40 (.blt .len [.t 39]), o1 41 (.mov none (kI 0))]) (.block 0 (.loop false [0, 6, 7, 39, 40, 41] l95_0))) (.seq (.seq (.region false [oM 51 7, o1 52 (.call 88 [(false, .t 51)]), oM 53 6, o1 54 (.bin .neq (.t 52) (.t 53))]) (.cond (.t 54) (.seq (.region false [oM 55 0, o1 56 (.call 96 [(false, .t 55), (false, kI 3)])]) (.seq (.region false [o1 2 (.mov none (.k (.one (.iv (.int .u64 0))))), o1 3 (.mov none (kB false))]) (.ret))) (.skip))) (.seq (.region false [oM 57 7, oM 2 57, o1 3 (.mov none (kB true))]) (.ret)))))))))))
def v95 : VFn := ⟨1, 58, [.t 2, .t 3], b95⟩

theorem c95 : chkFn Try.prog 95 v95 = true := by kernel_rfl

/- (*scholia/coder.In).Fail -/
def b96 : VCode := .seq (.seq (.region false [oM 4 0, o1 5 (.eqs .eql .ptr (.t 4) (.k (.one (.iv .nilp)))), oM 6 5, oG 7 (.mov none (.t 0)) 6 false, oG 8 (.nilc (.t 7)) 6 false, oG 9 (.fad 2 (.t 8)) 6 false, oG 10 (.load false 1 (.t 9)) 6 false, oG 11 (.un .not (.t 10)) 6 false, o1 12 (.pick (.t 6) (kB true) (.t 11)), oM 13 12, oG 14 (.mov none (.t 0)) 13 false, oG 15 (.nilc (.t 14)) 13 false, oG 16 (.fad 1 (.t 15)) 13 false, oG 17 (.load false 1 (.t 16)) 13 false, oG 18 (.bin .neq (.t 17) (kI 0)) 13 false, o1 19 (.pick (.t 13) (kB true) (.t 18)), oM 20 19, oG 21 (.mov none (.t 1)) 20 false, oG 22 (.bin .eql (.t 21) (kI 0)) 20 false, o1 23 (.pick (.t 20) (kB true) (.t 22))]) (.cond (.t 23) (.ret) (.skip))) (.region false [oM 24 0, oM 25 0, oM 26 1, o1 27 (.nilc (.t 24)), oF 28 1 27, ⟨none, .store 1 (.t 28) (.t 26), [], none⟩, o1 29 (.nilc (.t 25)), oF 30 0 29, ⟨none, .store 1 (.t 30) kN, [], none⟩])
def v96 : VFn := ⟨2, 31, [], b96⟩

theorem c96 : chkFn Try.prog 96 v96 = true := by kernel_rfl

/- (*scholia/coder.In).take -/
def b97 : VCode := .seq (.region false [o1 4 (.mov none kN), o1 5 (.mov none (kB false))]) (.seq (.seq (.region false [oM 7 0, o1 8 (.eqs .eql .ptr (.t 7) (.k (.one (.iv .nilp)))), oM 9 8, oG 10 (.mov none (.t 0)) 9 false, oG 11 (.nilc (.t 10)) 9 false, oG 12 (.fad 2 (.t 11)) 9 false, oG 13 (.load false 1 (.t 12)) 9 false, oG 14 (.un .not (.t 13)) 9 false, o1 15 (.pick (.t 9) (kB true) (.t 14)), oM 16 15, oG 17 (.mov none (.t 0)) 16 false, oG 18 (.nilc (.t 17)) 16 false, oG 19 (.fad 1 (.t 18)) 16 false, oG 20 (.load false 1 (.t 19)) 16 false, oG 21 (.bin .neq (.t 20) (kI 0)) 16 false, o1 22 (.pick (.t 16) (kB true) (.t 21))]) (.cond (.t 22) (.seq (.region false [o1 4 (.mov none kN), o1 5 (.mov none (kB false))]) (.ret)) (.skip))) (.seq (.seq (.region false [oM 23 1, oM 24 0, o1 25 (.nilc (.t 24)), oF 26 0 25, oL 27 26, o1 28 (.blt .len [.t 27]), o1 29 (.bin .gtr (.t 23) (.t 28))]) (.cond (.t 29) (.seq (.region false [oM 30 0, o1 31 (.call 96 [(false, .t 30), (false, kI 4)])]) (.seq (.region false [o1 4 (.mov none kN), o1 5 (.mov none (kB false))]) (.ret))) (.skip))) (.seq (.region false [oM 32 0, o1 33 (.nilc (.t 32)), oF 34 0 33, oL 35 34, oM 36 1, oM 37 1, o1 38 (.slS 1 (.t 35) none (some (.t 36)) (some (.t 37))), oM 6 38]) (.seq (.region false [oM 39 0, oM 40 0, o1 41 (.nilc (.t 40)), oF 42 0 41, oL 43 42, oM 44 1, o1 45 (.slS 1 (.t 43) (some (.t 44)) none none), o1 46 (.nilc (.t 39)), oF 47 0 46, ⟨none, .store 1 (.t 47) (.t 45), [], none⟩]) (.seq (.region false [oM 48 6, oM 4 48, o1 5 (.mov none (kB true))]) (.ret))))))
def v97 : VFn := ⟨2, 49, [.t 4, .t 5], b97⟩

theorem c97 : chkFn Try.prog 97 v97 = true := by kernel_rfl

/- math/bits.LeadingZeros8 -/
def b101 : VCode := .seq (.region false [o1 2 (.mov none (kI 0))]) (.seq (.region false [oM 3 0, o1 4 (.call 102 [(false, .t 3)]), o1 5 (.bin .sub (kI 8) (.t 4)), oM 2 5]) (.ret))
def v101 : VFn := ⟨1, 6, [.t 2], b101⟩

theorem c101 : chkFn Try.prog 101 v101 = true := by kernel_rfl

/- math/bits.Len8 -/
def b102 : VCode := .seq (.region false [o1 2 (.mov none (kI 0))]) (.seq (.region false [oM 3 0, o1 4 (.ixT (.k (.one (.iv (.str ⟨#[0, 1, 2, 2, 3, 3, 3, 3, 4, 4, 4, 4, 4, 4, 4, 4, 5, 5, 5, 5, 5, 5, 5, 5, 5, 5, 5, 5, 5, 5, 5, 5, 6, 6, 6, 6, 6, 6, 6, 6, 6, 6, 6, 6, 6, 6, 6, 6, 6, 6, 6, 6, 6, 6, 6, 6, 6, 6, 6, 6, 6, 6, 6, 6, 7, 7, 7, 7, 7, 7, 7, 7, 7, 7, 7, 7, 7, 7, 7, 7, 7, 7, 7, 7, 7, 7, 7, 7, 7, 7, 7, 7, 7, 7, 7, 7, 7, 7, 7, 7, 7, 7, 7, 7, 7, 7, 7, 7, 7, 7, 7, 7, 7, 7, 7, 7, 7, 7, 7, 7, 7, 7, 7, 7, 7, 7, 7, 7, 8, 8, 8, 8, 8, 8, 8, 8, 8, 8, 8, 8, 8, 8, 8, 8, 8, 8, 8, 8, 8, 8, 8, 8, 8, 8, 8, 8, 8, 8, 8, 8, 8, 8, 8, 8, 8, 8, 8, 8, 8, 8, 8, 8, 8, 8, 8, 8, 8, 8, 8, 8, 8, 8, 8, 8, 8, 8, 8, 8, 8, 8, 8, 8, 8, 8, 8, 8, 8, 8, 8, 8, 8, 8, 8, 8, 8, 8, 8, 8, 8, 8, 8, 8, 8, 8, 8, 8, 8, 8, 8, 8, 8, 8, 8, 8, 8, 8, 8, 8, 8, 8, 8, 8, 8, 8, 8, 8, 8, 8, 8, 8, 8, 8, 8, 8, 8, 8, 8, 8, 8, 8, 8, 8, 8, 8, 8, 8]⟩)))) (.t 3)), o1 5 (.conv .i64 (.t 4)), oM 2 5]) (.ret))
def v102 : VFn := ⟨1, 6, [.t 2], b102⟩

theorem c102 : chkFn Try.prog 102 v102 = true := by kernel_rfl

def tab : List (Nat × VFn) := [(6, v6), (8, v8), (10, v10), (14, v14), (17, v17), (20, v20), (21, v21), (22, v22), (25, v25), (26, v26), (33, v33), (39, v39), (40, v40), (43, v43), (44, v44), (58, v58), (59, v59), (60, v60), (71, v71), (72, v72), (73, v73), (74, v74), (75, v75), (76, v76), (78, v78), (79, v79), (88, v88), (95, v95), (96, v96), (97, v97), (101, v101), (102, v102)]

theorem tab_ok : TabOK Try.prog (lookT tab) := tabOK_cons c6 (tabOK_cons c8 (tabOK_cons c10 (tabOK_cons c14 (tabOK_cons c17 (tabOK_cons c20 (tabOK_cons c21 (tabOK_cons c22 (tabOK_cons c25 (tabOK_cons c26 (tabOK_cons c33 (tabOK_cons c39 (tabOK_cons c40 (tabOK_cons c43 (tabOK_cons c44 (tabOK_cons c58 (tabOK_cons c59 (tabOK_cons c60 (tabOK_cons c71 (tabOK_cons c72 (tabOK_cons c73 (tabOK_cons c74 (tabOK_cons c75 (tabOK_cons c76 (tabOK_cons c78 (tabOK_cons c79 (tabOK_cons c88 (tabOK_cons c95 (tabOK_cons c96 (tabOK_cons c97 (tabOK_cons c101 (tabOK_cons c102 tabOK_nil)))))))))))))))))))))))))))))))

def clones : List (Nat × Nat × Nat) := []

theorem clones_ok : chkClones Try.prog clones = true := by kernel_rfl

theorem mixed : Try.prog.follows .mixedOrders = true := by kernel_rfl

theorem pr_ok : PrOK Try.prog (fun _ => clonePr clones) := fun _ _ _ => clonePr_ok mixed clones_ok

theorem pr_mono : PrMono (fun _ => clonePr clones) := const_mono

abbrev Pl (f : Nat) (vs : List FV) (v : FV) (bs : List Blk) : Prop := Plays (lookT tab) (fun _ => clonePr clones) f vs [] (v, bs)

end Go.Proofs.Ytinobfilomhhhaa
