/- A number behind bytes, gone through. -/
import Derived.Test.YtinobfilomhhhaaCGD
set_option linter.unusedSimpArgs false
set_option linter.unusedVariables false
set_option maxRecDepth 100000
set_option maxHeartbeats 1000000
set_option cbv.maxSteps 10000000
namespace Go.Proofs.Ytinobfilomhhhaa
open Go GoV

def by8 (l : List Nat) : List (List IV) := l.map fun (b : Nat) => [.int .u8 (b : Int)]
theorem by8_len (l : List Nat) : (by8 l).length = l.length := by simp [by8]
theorem by8_app (a b : List Nat) : by8 (a ++ b) = by8 a ++ by8 b := by simp [by8]
/-- The first bytes of a number, so many. -/
def pre (x n : Nat) : List Nat := (enc x).take n
theorem pre_len {x n : Nat} (h : n ≤ nd x + 1) : (pre x n).length = n := by simp [pre, enc_len]; omega
theorem pre_all (x : Nat) : pre x (nd x + 1) = enc x := List.take_of_length_le (by rw [enc_len]; omega)
theorem pre_one (x : Nat) : pre x 1 = [fst8 x] := by simp [pre, enc]
theorem pre_next {x t : Nat} (h : t < nd x) : pre x (1 + t + 1) = pre x (1 + t) ++ [x / 256 ^ (nd x - 1 - t) % 256] := by
  have h1 : 1 + t < (enc x).length := by rw [enc_len]; omega
  have h2 : (enc x)[1 + t] = x / 256 ^ (nd x - 1 - t) % 256 := by
    have := tl_get x (nd x) t (by rw [tl_len]; omega)
    rw [← this]
    simp only [enc, show 1 + t = t + 1 by omega, List.getElem_cons_succ]
  unfold pre
  rw [List.take_succ_eq_append_getElem h1, h2]
theorem app1 {A : Ar} (hA : A = real) {es : List (List IV)} (y : List IV) (h : es.length + 1 ≤ 211106232532992) : A .app 1 es [y] = some (false, es ++ [y]) := by
  rw [hA, real_app]
  unfold rApp room
  rw [if_neg (by simp), if_pos (by simpa using h)]
theorem apo1 {A : Ar} (hA : A = real) {es : List (List IV)} (y : List IV) {n : Nat} (hn : n = es.length) (h : es.length + 1 ≤ 211106232532992) : A .apo 1 0 n es [y] = some (true, es ++ [y]) := by
  rw [hA, real_apo, hn]
  unfold rApo room
  rw [if_pos (by simp), if_pos ⟨by simpa using h, .inl rfl⟩]
  rfl
theorem cut3 {A : Ar} (hA : A = real) {es : List (List IV)} {n : Int} (hn : n = es.length) : A .sub3 es none (some n) (some n) = some es := by
  rw [hA, real_sub3, hn]
  unfold rSub3 rSub rCut rBound
  simp
theorem n60 (B : List Nat) (t : Bool) (z : Nat) (hz : z = 0 ∨ z = 1) {x : Nat} (hx : x < 2 ^ 63) (hB : B.length ≤ 200000000000000) :
    Pn 12 60 [.one (.iv (.sl t z (by8 B))), i64 x] [] (.one (.slo 0 0 (B ++ enc x).length)) [.arr false false 1 (by8 (B ++ enc x))] := by
  refine playN 11 rfl rfl fun A call hA hcall => ?_
  have h8 := nd_le x
  have k1 := n88 (x := x) (by omega) 11 (by omega)
  rw [← hcall] at k1
  obtain ⟨K, hK⟩ : ∃ v : Int, v = nd x := ⟨_, rfl⟩
  obtain ⟨X, hX⟩ : ∃ v : Int, v = x := ⟨_, rfl⟩
  obtain ⟨LB, hLB⟩ : ∃ v : Int, v = B.length := ⟨_, rfl⟩
  obtain ⟨N, hN⟩ : ∃ N : Nat → Nat, ∀ t, N t = B.length + 1 + t := ⟨_, fun _ => rfl⟩
  obtain ⟨E, hE⟩ : ∃ E : Nat → List (List IV), ∀ t, E t = by8 (B ++ pre x (1 + t)) := ⟨_, fun _ => rfl⟩
  obtain ⟨I, hI⟩ : ∃ I : Nat → Int, ∀ t, I t = nd x - 1 - t := ⟨_, fun _ => rfl⟩
  have lE : ∀ t, t ≤ nd x → (E t).length = N t := fun t ht => by rw [hE, hN, by8_len, List.length_append, pre_len (by omega)]; omega
  have m1 := mxR hA (a := X) (b := 0) (c := X) (by omega)
  have u1 : A .ck .u64 X = X := by rw [hX]; exact ckU64 hA (by omega)
  have l1 : A .len (by8 B) = LB := by rw [hA, real_len, by8_len, hLB]
  have s3 := cut3 hA (es := by8 B) (n := LB) (by rw [by8_len, hLB])
  have kn : A .nn K = true := by rw [hA, hK]; simp [real_nn]
  obtain ⟨f0, hf0⟩ : ∃ f0 : Nat, f0 = 256 - 2 ^ (8 - nd x) := ⟨_, rfl⟩
  obtain ⟨F, hF⟩ : ∃ v : Int, v = ((65280 / 2 ^ nd x : Nat) : Int) := ⟨_, rfl⟩
  have s4 : A .ar .shr .u64 65280 K = F := by rw [hF]; exact shrN hA (a := 65280) (j := nd x) hK (by show nd x ≤ 64; omega)
  have u2 : A .ck .u8 F = (f0 : Int) := by rw [hF, ckU8 hA, first8 h8, hf0]
  have a1 := app1 hA (es := by8 B) [.int .u8 (f0 : Int)] (by rw [by8_len]; omega)
  obtain ⟨E0, hE0⟩ : ∃ E0, E0 = by8 B ++ [[.int .u8 (f0 : Int)]] := ⟨_, rfl⟩
  rw [← hE0] at a1
  have ln0 : A .ln E0 = N 0 := by rw [hA, real_ln, hE0, hN]; simp [by8_len]
  have lnE : ∀ t, t ≤ nd x → A .ln (E t) = N t := fun t ht => by rw [hA, real_ln, lE t ht]
  have st := subR hA (a := K) (b := 1) (c := I 0) (by rw [hI]; omega) (by rw [hI]; omega)
  have fin : ∀ t, t = nd x → E t = by8 (B ++ enc x) ∧ N t = (B ++ enc x).length := fun t ht => by
    rw [hE, hN, ht, Nat.add_comm 1, pre_all, List.length_append, enc_len]; exact ⟨rfl, by omega⟩
  have tail : ∀ (Q : Ex → St → Prop) (st0 : St), headV false [5, 7, 8] st0 = some ⟨0, (u :: u :: u :: u :: u :: u64 X :: u :: .one (.slo 0 0 (N 0)) :: i64 (I 0) :: u :: u :: u :: u :: u :: u :: u :: u :: u :: u :: u :: u :: u :: u :: u :: u :: u :: u :: u :: u :: u :: u :: u :: u :: u :: u :: u :: u :: u :: u :: u :: u :: u :: u :: u :: u :: u :: u :: u :: u :: u :: u :: u :: u :: u :: []), [.arr false false 1 (E 0)]⟩ →
      Q .normal ⟨0, (u :: u :: u :: u :: u :: u64 X :: u :: .one (.slo 0 0 (N (nd x))) :: i64 (I (nd x)) :: u :: u :: u :: u :: u :: u :: u :: u :: u :: u :: u :: u :: u :: u :: u :: u :: u :: u :: u :: u :: u :: u :: u :: u :: u :: u :: u :: u :: u :: u :: u :: u :: i64 (I (nd x)) :: bl false :: u :: u :: u :: u :: u :: u :: u :: u :: u :: u :: u :: []), [.arr false false 1 (E (nd x))]⟩ → wpV A call (iterN 11) (.block 0 (.loop false [5, 7, 8] l60_0)) st0 Q := by
    intro Q st0 hst hQ
    apply wpV_block
    refine wpV_loop (nd x) (fun i st => st = ⟨0, (u :: u :: u :: u :: u :: u64 X :: u :: .one (.slo 0 0 (N i)) :: i64 (I i) :: u :: u :: u :: u :: u :: u :: u :: u :: u :: u :: u :: u :: u :: u :: u :: u :: u :: u :: u :: u :: u :: u :: u :: u :: u :: u :: u :: u :: u :: u :: u :: u :: u :: u :: u :: u :: u :: u :: u :: u :: u :: u :: u :: u :: u :: []), [.arr false false 1 (E i)]⟩) (by omega) hst rfl ?_
    rintro i hi st rfl
    by_cases him : i < nd x
    · have c1 := geT hA (a := I i) (b := 0) (by rw [hI]; omega)
      obtain ⟨S, hS⟩ : ∃ v : Int, v = ((8 * (nd x - 1 - i) : Nat) : Int) := ⟨_, rfl⟩
      have s1 := mulR hA (a := 8) (b := I i) (c := S) (by rw [hI, hS]; omega) (by omega)
      have n1 : A .nn S = true := by rw [hA, hS]; simp [real_nn]; omega
      obtain ⟨W, hW⟩ : ∃ v : Int, v = ((x / 2 ^ (8 * (nd x - 1 - i)) : Nat) : Int) := ⟨_, rfl⟩
      have s2 : A .ar .shr .u64 X S = W := by rw [hW, hX]; exact shrN hA (k := .u64) (j := 8 * (nd x - 1 - i)) hS (by show _ ≤ 64; omega)
      obtain ⟨V, hV⟩ : ∃ v : Int, v = ((x / 256 ^ (nd x - 1 - i) % 256 : Nat) : Int) := ⟨_, rfl⟩
      have u3 : A .ck .u8 W = V := by rw [hW, hV, ckU8 hA, show (256 : Nat) ^ (nd x - 1 - i) = 2 ^ (8 * (nd x - 1 - i)) by rw [Nat.pow_mul]]
      have a2 : A .apo 1 0 (N i) (E i) [[.int .u8 V]] = some (true, E (i + 1)) := by
        have hl := lE i (by omega)
        rw [apo1 hA [.int .u8 V] hl.symm (by rw [hl, hN]; omega), hE, hE, show 1 + (i + 1) = 1 + i + 1 by omega, pre_next him, ← List.append_assoc, by8_app (B ++ pre x (1 + i)), hV]
        rfl
      have l2 := lnE (i + 1) (by omega)
      have sb := subR hA (a := I i) (b := 1) (c := I (i + 1)) (by rw [hI, hI]; omega) (by rw [hI]; omega)
      generalize I (i + 1) = J1 at *
      generalize I i = J at *
      generalize E (i + 1) = F1 at *
      generalize E i = F0 at *
      generalize N (i + 1) = M1 at *
      generalize N i = M0 at *
      refine wpV_of (by ((conv => lhs; cbv); (repeat ((first | rewrite [c1] | rewrite [s1] | rewrite [n1] | rewrite [s2] | rewrite [u3] | rewrite [a2] | rewrite [l2] | rewrite [sb]); (try (conv => lhs; cbv)))); (try (with_reducible rfl)))) ?_
      refine headQ_of (by ((conv => lhs; cbv); (try (with_reducible rfl)))) ?_
      exact ⟨him, (by ((repeat (first | rewrite [l2] | rewrite [sb])); (try rfl)))⟩
    · obtain rfl : i = nd x := by omega
      have c1 := geF hA (a := I (nd x)) (b := 0) (by rw [hI]; omega)
      generalize I (nd x) = J at *
      generalize E (nd x) = F0 at *
      generalize N (nd x) = M0 at *
      refine wpV_of (by ((conv => lhs; cbv); (repeat ((first | rewrite [c1]); (try (conv => lhs; cbv)))); (try (with_reducible rfl)))) ?_
      exact hQ
  have fin' := fin (nd x) rfl
  have e0 : nd x = 8 → E 0 = E0 ∧ True := fun h => by
    rw [hE, pre_one, by8_app, hE0, hf0]
    refine ⟨?_, trivial⟩
    simp only [by8, List.map_cons, List.map_nil, fst8, top_0 h (show x < 2 ^ 64 by omega), Nat.add_zero]
  have e1 : nd x < 8 → ∃ S W V : Int, A .ar .mul .i64 8 K = S ∧ A .nn S = true ∧ A .ar .shr .u64 X S = W ∧ A .ck .u8 W = V ∧ A .ar .or .u8 (f0 : Int) V = (fst8 x : Int) := fun h => by
    have ht := top_lt h
    have ht' : x / 256 ^ nd x < 2 ^ 7 := Nat.lt_of_lt_of_le ht (Nat.pow_le_pow_right (by omega) (by omega))
    refine ⟨((8 * nd x : Nat) : Int), ((x / 2 ^ (8 * nd x) : Nat) : Int), ((x / 256 ^ nd x : Nat) : Int), mulR hA (by rw [hK]; omega) (by omega), by rw [hA]; simp [real_nn]; omega, by rw [hX]; exact shrN hA (k := .u64) (j := 8 * nd x) rfl (by show _ ≤ 64; omega), ?_, ?_⟩
    · rw [ckU8 hA, Nat.pow_mul, show (2 : Nat) ^ 8 = 256 from rfl, Nat.mod_eq_of_lt (by omega)]
    · rw [hf0, or8 hA h ht]
      rfl
  have i0 : A .at_ LB (N 0) = some B.length := by rw [hA, real_at, hLB, hN]; simp [rIdx]; omega
  have gg : A .getN E0 B.length = some [.int .u8 (f0 : Int)] := by rw [hA, real_getN, hE0, List.getElem?_append_right (by rw [by8_len]; omega)]; simp [by8_len]
  have ss : A .set E0 B.length 0 [.int .u8 (fst8 x : Int)] = some (E 0) := by
    have h1 : E0[B.length]? = some [.int .u8 (f0 : Int)] := by rw [hE0, List.getElem?_append_right (by rw [by8_len]; omega)]; simp [by8_len]
    have h2 : E0.set B.length [.int .u8 (fst8 x : Int)] = E 0 := by
      rw [hE0, List.set_append_right _ _ (by rw [by8_len]; omega), by8_len, Nat.sub_self, hE, pre_one, by8_app]
      rfl
    rw [hA, real_set]
    simp only [rSet, h1]
    rw [← h2]
    rfl
  obtain ⟨fE, fN⟩ := fin'
  rw [← fE, ← fN]
  obtain ⟨F0, hF0⟩ : ∃ v : Int, v = f0 := ⟨_, rfl⟩
  obtain ⟨F1, hF1⟩ : ∃ v : Int, v = fst8 x := ⟨_, rfl⟩
  rw [← hF0] at u2 a1 gg e1
  rw [← hF1] at ss e1
  rw [← hX, ← hK] at k1
  rw [← hX]
  have hz' : okE z 1 = true := by rcases hz with rfl | rfl <;> rfl
  by_cases h : nd x < 8
  · obtain ⟨S, W, V, q1, q2, q3, q4, q5⟩ := e1 h
    have c := ltT hA (a := K) (b := 8) (by omega)
    clear hE hN hI lE lnE fin e0 e1 hE0 hF0 hF1 hf0 hF hX hK hLB
    generalize B.length = nB at *
    generalize by8 B = es at *
    generalize N 0 = M0 at *
    generalize E 0 = G0 at *
    generalize I 0 = J0 at *
    generalize E (nd x) = GL at *
    generalize N (nd x) = ML at *
    generalize I (nd x) = JL at *
    rcases hz with rfl | rfl
    all_goals
      apply wpV_seq; refine wpV_of (by ((conv => lhs; cbv); (try (with_reducible rfl)))) ?_
      apply wpV_seq; refine wpV_of (by ((conv => lhs; cbv); (repeat ((first | rewrite [m1] | rewrite [u1]); (try (conv => lhs; cbv)))); (try (with_reducible rfl)))) ?_
      apply wpV_seq; refine wpV_of (by ((conv => lhs; cbv); (repeat ((first | rewrite [m1] | rewrite [u1] | rewrite [k1]); (try (conv => lhs; cbv)))); (try (with_reducible rfl)))) ?_
      apply wpV_seq; refine wpV_of (by ((conv => lhs; cbv); (repeat ((first | rewrite [m1] | rewrite [u1] | rewrite [l1] | rewrite [s3] | rewrite [kn] | rewrite [s4] | rewrite [u2] | rewrite [a1] | rewrite [ln0]); (try (conv => lhs; cbv)))); (try (with_reducible rfl)))) ?_
      apply wpV_seq; refine wpV_of (by ((conv => lhs; cbv); (repeat ((first | rewrite [m1] | rewrite [u1] | rewrite [s4] | rewrite [u2] | rewrite [c] | rewrite [l1] | rewrite [ln0] | rewrite [i0] | rewrite [gg] | rewrite [q1] | rewrite [q2] | rewrite [q3] | rewrite [q4] | rewrite [q5] | rewrite [ss]); (try (conv => lhs; cbv)))); (try (with_reducible rfl)))) ?_
      apply wpV_seq; apply wpV_seq; refine wpV_of (by ((conv => lhs; cbv); (repeat ((first | rewrite [m1] | rewrite [u1] | rewrite [st]); (try (conv => lhs; cbv)))); (try (with_reducible rfl)))) ?_
      refine tail _ _ (by ((conv => lhs; cbv); (repeat ((first | rewrite [m1] | rewrite [u1] | rewrite [ln0] | rewrite [st]); (try (conv => lhs; cbv)))); (try (with_reducible rfl)))) ?_
      show wpV _ _ _ _ _ _
      refine wpV_of (by ((conv => lhs; cbv); (try (with_reducible rfl)))) ?_
      (show finV _ _ _ = some _; ((conv => lhs; cbv); (try (with_reducible rfl))); (try rfl))
  · have e0' := (e0 (by omega)).1
    have c := ltF hA (a := K) (b := 8) (by omega)
    rw [← e0'] at a1 ln0
    clear hE hN hI lE lnE fin e0 e1 hE0 hF0 hF1 hf0 hF hX hK hLB e0' gg ss i0
    generalize B.length = nB at *
    generalize by8 B = es at *
    generalize N 0 = M0 at *
    generalize E 0 = G0 at *
    generalize I 0 = J0 at *
    generalize E (nd x) = GL at *
    generalize N (nd x) = ML at *
    generalize I (nd x) = JL at *
    rcases hz with rfl | rfl
    all_goals
      apply wpV_seq; refine wpV_of (by ((conv => lhs; cbv); (try (with_reducible rfl)))) ?_
      apply wpV_seq; refine wpV_of (by ((conv => lhs; cbv); (repeat ((first | rewrite [m1] | rewrite [u1]); (try (conv => lhs; cbv)))); (try (with_reducible rfl)))) ?_
      apply wpV_seq; refine wpV_of (by ((conv => lhs; cbv); (repeat ((first | rewrite [m1] | rewrite [u1] | rewrite [k1]); (try (conv => lhs; cbv)))); (try (with_reducible rfl)))) ?_
      apply wpV_seq; refine wpV_of (by ((conv => lhs; cbv); (repeat ((first | rewrite [m1] | rewrite [u1] | rewrite [l1] | rewrite [s3] | rewrite [kn] | rewrite [s4] | rewrite [u2] | rewrite [a1] | rewrite [ln0]); (try (conv => lhs; cbv)))); (try (with_reducible rfl)))) ?_
      apply wpV_seq; refine wpV_of (by ((conv => lhs; cbv); (repeat ((first | rewrite [c]); (try (conv => lhs; cbv)))); (try (with_reducible rfl)))) ?_
      apply wpV_seq; apply wpV_seq; refine wpV_of (by ((conv => lhs; cbv); (repeat ((first | rewrite [m1] | rewrite [u1] | rewrite [st]); (try (conv => lhs; cbv)))); (try (with_reducible rfl)))) ?_
      refine tail _ _ (by ((conv => lhs; cbv); (repeat ((first | rewrite [m1] | rewrite [u1] | rewrite [ln0] | rewrite [st]); (try (conv => lhs; cbv)))); (try (with_reducible rfl)))) ?_
      show wpV _ _ _ _ _ _
      refine wpV_of (by ((conv => lhs; cbv); (try (with_reducible rfl)))) ?_
      (show finV _ _ _ = some _; ((conv => lhs; cbv); (try (with_reducible rfl))); (try rfl))
end Go.Proofs.Ytinobfilomhhhaa
