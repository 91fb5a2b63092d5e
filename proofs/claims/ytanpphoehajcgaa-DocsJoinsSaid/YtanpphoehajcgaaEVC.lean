/- Texts and events that may be: gone through. -/
import Derived.Test.YtanpphoehajcgaaEVB
set_option linter.unusedSimpArgs false
set_option linter.unusedVariables false
set_option maxRecDepth 100000
set_option maxHeartbeats 1000000
set_option cbv.maxSteps 10000000
namespace Go.Proofs.Ytanpphoehajcgaa
open Go GoV

theorem nxt_range (s : ByteArray) (i : Nat) (hi : i < s.size) : -1 ≤ (nxt s i).1 ∧ (nxt s i).1 ≤ 1114111 ∧ 1 ≤ (nxt s i).2 ∧ (nxt s i).2 ≤ s.size - i := by
  have := nx_range (s.size - i) (by omega) (bt_range s i).1 (bt_range s (i + 1)).1 (bt_range s (i + 2)).1 (bt_range s (i + 3)).1
  unfold nxt
  omega
/-- Is a text UTF-8, from i on? -/
def valGo (s : ByteArray) : Nat → Nat → Bool
  | 0, _ => true
  | k + 1, i => if i < s.size then (if (nxt s i).1 < 0 then false else valGo s k (i + (nxt s i).2.toNat)) else true
def validS (s : ByteArray) : Bool := valGo s (s.size + 1) 0
def textC (f : Int) (s : ByteArray) : Int := if f < 0 ∨ 4 < f ∨ f = 0 ∧ s.size ≠ 0 then 1 else if 160 < s.size then 5 else if validS s = true then 0 else 7
/-! ### Dots that an event takes away -/
def eDs (l : List (Int × Int)) : List (List IV) := l.map fun p => [.int .i64 p.1, .int .i64 p.2]
/-- From i on: each may be, is not the event's, and stands behind the one ahead. -/
def gGo (own : Int × Int) (l : List (Int × Int)) : Nat → Nat → Bool
  | 0, _ => true
  | k + 1, i => if validB (l.getD i (0, 0)) = false ∨ l.getD i (0, 0) = own ∨ 0 < i ∧ 0 ≤ cmpN (l.getD (i - 1) (0, 0)) (l.getD i (0, 0)) then false else gGo own l k (i + 1)
def goneB (own : Int × Int) (l : List (Int × Int)) : Bool := gGo own l l.length 0 && decide (l.length ≤ 120)
theorem eqvD {A : Ar} (hA : A = real) (a b c d : Int) : A .eqv ([.int] ++ [.int]) [.int .i64 a, .int .i64 b] [.int .i64 c, .int .i64 d] = some (decide ((a, b) = (c, d))) := by
  rw [hA, real_eqv]
  unfold rEqv
  simp only [flatI, Option.bind_some, rEqL, rEqK, if_true, List.singleton_append, List.cons_append, List.nil_append, Prod.mk.injEq]
  by_cases h1 : a = c <;> by_cases h2 : b = d <;> simp [h1, h2]
end Go.Proofs.Ytanpphoehajcgaa
