/- Bytes and numbers: which vectors may be; numbers as they are. -/
import Derived.Test.YtinobfilomhhhaaCGCode
set_option linter.unusedSimpArgs false
set_option linter.unusedVariables false
set_option maxRecDepth 100000
set_option maxHeartbeats 1000000
set_option cbv.maxSteps 10000000
namespace Go.Proofs.Ytinobfilomhhhaa
open Go GoV

section nums
variable {A : Ar} (hA : A = real)
include hA
theorem ltT {a b : Int} (h : a < b) : A .cmp .lss a b = true := by rw [hA, lss_real]; exact decide_eq_true h
theorem ltF {a b : Int} (h : b ≤ a) : A .cmp .lss a b = false := by rw [hA, lss_real]; exact decide_eq_false (by omega)
theorem leT {a b : Int} (h : a ≤ b) : A .cmp .leq a b = true := by rw [hA, leq_real]; exact decide_eq_true h
theorem leF {a b : Int} (h : b < a) : A .cmp .leq a b = false := by rw [hA, leq_real]; exact decide_eq_false (by omega)
theorem gtT {a b : Int} (h : b < a) : A .cmp .gtr a b = true := by rw [hA, gtr_real]; exact decide_eq_true h
theorem gtF {a b : Int} (h : a ≤ b) : A .cmp .gtr a b = false := by rw [hA, gtr_real]; exact decide_eq_false (by omega)
theorem geT {a b : Int} (h : b ≤ a) : A .cmp .geq a b = true := by rw [hA, geq_real]; exact decide_eq_true h
theorem geF {a b : Int} (h : a < b) : A .cmp .geq a b = false := by rw [hA, geq_real]; exact decide_eq_false (by omega)
theorem eqT {a b : Int} (h : a = b) : A .cmp .eql a b = true := by rw [hA, eql_real]; exact decide_eq_true h
theorem eqF {a b : Int} (h : a ≠ b) : A .cmp .eql a b = false := by rw [hA, eql_real]; exact decide_eq_false h
theorem neT {a b : Int} (h : a ≠ b) : A .cmp .neq a b = true := by rw [hA, neq_real]; exact decide_eq_true h
theorem neF {a b : Int} (h : a = b) : A .cmp .neq a b = false := by rw [hA, neq_real]; exact decide_eq_false (by simp [h])
theorem addR {a b c : Int} (h : c = a + b) (hc : -9223372036854775808 ≤ c ∧ c ≤ 9223372036854775807) : A .ar .add .i64 a b = c := by rw [hA, h]; rw [h] at hc; exact add_real hc
theorem subR {a b c : Int} (h : c = a - b) (hc : -9223372036854775808 ≤ c ∧ c ≤ 9223372036854775807) : A .ar .sub .i64 a b = c := by rw [hA, h]; rw [h] at hc; exact sub_real hc
theorem mulR {a b c : Int} (h : c = a * b) (hc : -9223372036854775808 ≤ c ∧ c ≤ 9223372036854775807) : A .ar .mul .i64 a b = c := by rw [hA, h]; rw [h] at hc; exact wrap_in hc
theorem quoR {a b c : Int} (h0 : 0 ≤ a) (h : c = a / b) (hc : -9223372036854775808 ≤ c ∧ c ≤ 9223372036854775807) : A .ar .quo .i64 a b = c := by
  rw [hA, h]
  show IntKind.i64.wrap (a.tdiv b) = _
  rw [Int.tdiv_eq_ediv_of_nonneg h0]
  rw [h] at hc
  exact wrap_in hc
theorem ckI {a : Int} (h : -9223372036854775808 ≤ a ∧ a ≤ 9223372036854775807) : A .ck .i64 a = a := by rw [hA]; exact wrap_in h
theorem ckU {a : Int} (h : 0 ≤ a) (h' : a < 256) : A .ck .u8 a = a := by
  rw [hA]
  show IntKind.u8.wrap a = a
  simp [IntKind.wrap, IntKind.min, IntKind.max, IntKind.signed, IntKind.bits]
  omega
theorem nzR {a : Int} (h : a ≠ 0) : A .nz a = true := by
  rw [hA]; show (a != 0) = true; simp [h]
theorem miR {a b c : Int} (h : c = min a b) : A .mi a b = c := by
  rw [hA, h]; show (if b < a then b else a) = _; split <;> omega
theorem mxR {a b c : Int} (h : c = max a b) : A .mx a b = c := by
  rw [hA, h]; show (if b > a then b else a) = _; split <;> omega
end nums

abbrev Pn (n f : Nat) (vs : List FV) (bs : List Blk) (v : FV) (os : List Blk) : Prop := ∀ m, n ≤ m → play real (lookT tab) (fun _ => clonePr clones) m f vs bs = some (v, os)
theorem playN {f : Nat} {vf : VFn} {vs : List FV} {bs : List Blk} {v : FV} {os : List Blk} (n : Nat) (hT : lookT tab f = some vf) (hlen : Nat.beq (lenF vs) vf.np = true)
    (h : ∀ A call, A = real → call = play real (lookT tab) (fun _ => clonePr clones) n → wpV A call (iterN n) vf.body ⟨lenH bs, padE vf.nt vs, bs⟩ (finQ A vf (v, os))) : Pn (n + 1) f vs bs v os := by
  obtain ⟨ex, s, h1, h2⟩ := h real _ rfl rfl
  have h0 : play real (lookT tab) (fun _ => clonePr clones) (n + 1) f vs bs = some (v, os) := by
    simp only [play, hT, bodyV, hlen, cond_true, h1, Option.bind_some]; exact h2
  exact fun m hm => play_mono pr_mono hm _ _ _ _ h0
end Go.Proofs.Ytinobfilomhhhaa
