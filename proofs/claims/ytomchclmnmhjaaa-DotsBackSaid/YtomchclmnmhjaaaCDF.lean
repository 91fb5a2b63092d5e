/- A reader takes bytes, and a number: gone through. -/
import Derived.Test.YtomchclmnmhjaaaCDE
set_option linter.unusedSimpArgs false
set_option linter.unusedVariables false
set_option maxRecDepth 100000
set_option maxHeartbeats 1000000
set_option cbv.maxSteps 10000000
namespace Go.Proofs.Ytomchclmnmhjaaa
open Go GoV

theorem ofNR {A : Ar} (hA : A = real) {x : Int} {n : Nat} (h : x = n) : A .ofN n = x := by rw [hA, h]; rfl
theorem atR {A : Ar} (hA : A = real) {x : Int} {i n : Nat} (hx : x = i) (h : i < n) : A .at_ x n = some i := by rw [hA, hx, real_at]; simp [rIdx, h]
/-- A reader without error, of which n bytes are left from o on. -/
abbrev rd (es : List (List IV)) (o n : Nat) (f : Bool) : List Blk := [.var false [.slo 1 o n, .iv (.int .i64 0), .iv (.bool true)], .arr f false 1 es]
abbrev rp : FV := .one (.ptr 0 0)
theorem n47 (es : List (List IV)) (o n : Nat) (f : Bool) : Pn 1 47 [rp] (rd es o n f) (i64 0) (rd es o n f) := by
  refine playN 0 rfl rfl fun A call hA hcall => ?_
  refine wpV_of (by ((conv => lhs; cbv); (try (with_reducible rfl)))) ?_
  (show finV _ _ _ = some _; ((conv => lhs; cbv); (try (with_reducible rfl))); (try rfl))
theorem n48 (es : List (List IV)) (o n : Nat) (f : Bool) : Pn 1 48 [rp] (rd es o n f) (i64 n) (rd es o n f) := by
  refine playN 0 rfl rfl fun A call hA hcall => ?_
  have h := ofNR hA (x := (n : Int)) (n := n) rfl
  generalize (n : Int) = X at *
  refine wpV_of (by ((conv => lhs; cbv); (repeat ((first | rewrite [h]); (try (conv => lhs; cbv)))); (try (with_reducible rfl)))) ?_
  (show finV _ _ _ = some _; ((conv => lhs; cbv); (repeat ((first | rewrite [h]); (try (conv => lhs; cbv)))); (try (with_reducible rfl))); (try rfl))
theorem n132 (es : List (List IV)) (o n j : Nat) (f : Bool) (hl : es.length = o + n) (hj : j ≤ n) : Pn 1 132 [rp, i64 j] (rd es o n f) (.tup [(false, [.iv (.sl true 1 (rSeg es o j))]), (false, [.iv (.bool true)])]) (rd es (o + j) (n - j) true) := by
  refine playN 0 rfl rfl fun A call hA hcall => ?_
  have h := ofNR hA (x := (n : Int)) (n := n) rfl
  have c := gtF hA (a := (j : Int)) (b := (n : Int)) (by omega)
  have n0 := neF hA (a := 0) (b := 0) rfl
  have k1 : A .cuts o n (A .ln es) none (some (j : Int)) (some (j : Int)) = some (o, j) := by
    rw [hA, real_cuts, real_ln, hl]; unfold rCuts rBound; simp [hj]
  have k2 : A .cuts o n (A .ln es) (some (j : Int)) none none = some (o + j, n - j) := by
    rw [hA, real_cuts, real_ln, hl]; unfold rCuts rBound; simp [hj]
  have sg : A .seg es o j = rSeg es o j := by rw [hA]; rfl
  generalize rSeg es o j = sl at *
  generalize o + j = o2 at *
  generalize n - j = n2 at *
  generalize (j : Int) = J at *
  generalize (n : Int) = X at *
  refine wpV_of (by ((conv => lhs; cbv); (repeat ((first | rewrite [n0] | rewrite [h] | rewrite [c] | rewrite [k1] | rewrite [k2] | rewrite [sg]); (try (conv => lhs; cbv)))); (try (with_reducible rfl)))) ?_
  (show finV _ _ _ = some _; ((conv => lhs; cbv); (repeat ((first | rewrite [n0] | rewrite [h] | rewrite [c] | rewrite [k1] | rewrite [k2] | rewrite [sg]); (try (conv => lhs; cbv)))); (try (with_reducible rfl))); (try rfl))
theorem lz {x L : Nat} (hx : x < 2 ^ 64) (h : IsLen (255 - fst8 x) L) (hL : L ≤ 8) : 8 - L = nd x := by
  have h8 := nd_le x
  have hf := fst8_lt hx
  by_cases c : nd x < 8
  · have a := top_lt c
    have e0 := Nat.two_pow_pos (7 - nd x)
    have e1 : 2 ^ (8 - nd x) = 2 * 2 ^ (7 - nd x) := by rw [show 8 - nd x = (7 - nd x) + 1 by omega, Nat.pow_succ]; omega
    have e2 : 2 ^ (8 - nd x) ≤ 2 ^ 8 := Nat.pow_le_pow_right (by omega) (by omega)
    have e3 : 255 - fst8 x = 2 ^ (8 - nd x) - 1 - x / 256 ^ nd x := by unfold fst8; omega
    have f1 : 255 - fst8 x < 2 ^ (8 - nd x) := by
      rw [e3]
      generalize x / 256 ^ nd x = Y at *
      generalize 2 ^ (8 - nd x) = U at *
      omega
    rcases h with ⟨h0, _⟩ | ⟨h0, b1, b2⟩
    · omega
    · have p1 := pw (a := 7 - nd x) (b := L) (by omega)
      have p2 := pw (a := L - 1) (b := 8 - nd x) (by omega)
      omega
  · have e : nd x = 8 := by omega
    have : fst8 x = 255 := by unfold fst8; rw [top_0 e hx, e]
    rcases h with ⟨h0, _⟩ | ⟨h0, b1, b2⟩
    · omega
    · have := Nat.two_pow_pos (L - 1); omega
theorem n122 (P W : List Nat) (f : Bool) {x : Nat} (hx : x < 2 ^ 63) (hl : P.length + (enc x ++ W).length ≤ 2 ^ 60) : Pn 12 122 [rp] (rd (by8 (P ++ (enc x ++ W))) P.length (enc x ++ W).length f) (.tup [(false, [.iv (.int .u64 x)]), (false, [.iv (.bool true)])]) (rd (by8 (P ++ (enc x ++ W))) (P ++ enc x).length W.length true) := by
  refine playN 11 rfl rfl fun A call hA hcall => ?_
  have h8 := nd_le x
  have x64 : x < 2 ^ 64 := by omega
  obtain ⟨es, hes⟩ : ∃ es, es = by8 (P ++ (enc x ++ W)) := ⟨_, rfl⟩
  obtain ⟨n, hn⟩ : ∃ n, n = (enc x ++ W).length := ⟨_, rfl⟩
  have hnl : n = 1 + nd x + W.length := by rw [hn, List.length_append, enc_len]; omega
  have hel : es.length = P.length + n := by rw [hes, by8_len, List.length_append, hn]
  have k1 := n132 es P.length n 1 f hel (by omega) 11 (by omega)
  have k2 := n132 es (P.length + 1) (n - 1) (nd x) true (by omega) (by omega) 11 (by omega)
  obtain ⟨L, hL, hL8, k3⟩ := n149 (x := 255 - fst8 x) (by omega)
  have k3 := k3 11 (by omega)
  rw [lz x64 hL hL8] at k3
  have k4 := n121 x64 11 (by omega)
  rw [← hcall] at k1 k2 k3 k4
  have sg1 : rSeg es P.length 1 = [[.int .u8 (fst8 x : Int)]] := by
    rw [hes, by8_app]
    unfold rSeg
    rw [List.drop_left' (by rw [by8_len])]
    simp [by8, enc]
  have sg2 : rSeg es (P.length + 1) (nd x) = by8 (tl x (nd x)) := by
    have e : P ++ (enc x ++ W) = (P ++ [fst8 x]) ++ (tl x (nd x) ++ W) := by simp [enc]
    rw [hes, e, by8_app (P ++ [fst8 x])]
    unfold rSeg
    rw [List.drop_left' (by rw [by8_len]; simp), by8_app, List.take_left' (by rw [by8_len, tl_len])]
  have eo : (P ++ enc x).length = P.length + 1 + nd x := by rw [List.length_append, enc_len]; omega
  have en : W.length = n - 1 - nd x := by omega
  rw [← hes, ← hn, eo, en]
  rw [sg1] at k1
  rw [sg2] at k2
  have c1 : ((1 : Nat) : Int) = 1 := rfl
  rw [c1] at k1
  have g0 : A .get [[.int .u8 (fst8 x : Int)]] 0 = some [.int .u8 (fst8 x : Int)] := by rw [hA]; rfl
  have nt := not8 hA (b := fst8 x) (fst8_lt x64)
  obtain ⟨X, hX⟩ : ∃ X : Nat → Int, ∀ t, X t = ((x / 256 ^ (nd x - t) : Nat) : Int) := ⟨_, fun _ => rfl⟩
  obtain ⟨K, hK⟩ : ∃ v : Int, v = nd x := ⟨_, rfl⟩
  obtain ⟨I, hI⟩ : ∃ I : Nat → Int, ∀ t, I t = t := ⟨_, fun _ => rfl⟩
  obtain ⟨S, hS⟩ : ∃ S, S = by8 (tl x (nd x)) := ⟨_, rfl⟩
  obtain ⟨o2, ho2⟩ : ∃ v, v = P.length + 1 + nd x := ⟨_, rfl⟩
  obtain ⟨n2, hn2⟩ : ∃ v, v = n - 1 - nd x := ⟨_, rfl⟩
  have ls : A .len S = K := by rw [hA, real_len, hS, by8_len, tl_len, hK]
  have tail : ∀ (Q : Ex → St → Prop) (st0 : St), headV false [0, 6, 7, 39, 40, 41] st0 = some ⟨2, (.one (.ptr 0 0) :: u :: u :: u :: u :: u :: i64 K :: u64 (X 0) :: u :: u :: u :: u :: u :: u :: u :: u :: u :: u :: u :: u :: u :: u :: u :: u :: u :: u :: u :: u :: u :: u :: u :: u :: u :: u :: u :: u :: u :: u :: u :: .one (.iv (.sl true 1 S)) :: i64 K :: i64 (I 0) :: u :: u :: u :: u :: u :: u :: u :: u :: u :: u :: u :: u :: u :: u :: u :: u :: []), rd es o2 n2 true⟩ →
      Q .normal ⟨2, (.one (.ptr 0 0) :: u :: u :: u :: u :: u :: i64 K :: u64 (X (nd x)) :: u :: u :: u :: u :: u :: u :: u :: u :: u :: u :: u :: u :: u :: u :: u :: u :: u :: u :: u :: u :: u :: u :: u :: u :: u :: u :: u :: u :: u :: u :: u :: .one (.iv (.sl true 1 S)) :: i64 K :: i64 (I (nd x)) :: bl false :: u :: u :: u :: u :: u :: u :: u :: u :: u :: u :: u :: u :: u :: u :: u :: []), rd es o2 n2 true⟩ → wpV A call (iterN 11) (.block 0 (.loop false [0, 6, 7, 39, 40, 41] l122_0)) st0 Q := by
    intro Q st0 hst hQ
    apply wpV_block
    refine wpV_loop (nd x) (fun i st => st = ⟨2, (.one (.ptr 0 0) :: u :: u :: u :: u :: u :: i64 K :: u64 (X i) :: u :: u :: u :: u :: u :: u :: u :: u :: u :: u :: u :: u :: u :: u :: u :: u :: u :: u :: u :: u :: u :: u :: u :: u :: u :: u :: u :: u :: u :: u :: u :: .one (.iv (.sl true 1 S)) :: i64 K :: i64 (I i) :: u :: u :: u :: u :: u :: u :: u :: u :: u :: u :: u :: u :: u :: u :: u :: u :: []), rd es o2 n2 true⟩) (by omega) hst rfl ?_
    rintro i hi st rfl
    by_cases him : i < nd x
    · have c := ltT hA (a := I i) (b := K) (by rw [hI, hK]; omega)
      obtain ⟨V, hV⟩ : ∃ v : Int, v = ((x / 256 ^ (nd x - 1 - i) % 256 : Nat) : Int) := ⟨_, rfl⟩
      have g : A .get S (I i) = some [.int .u8 V] := by
        rw [hA, hI]
        refine get_real _ i ?_
        rw [hS, by8, List.getElem?_map, List.getElem?_eq_getElem (by rw [tl_len]; exact him), tl_get, hV]
        rfl
      have dn := down x (nd x - 1 - i)
      have le : x / 256 ^ (nd x - 1 - i) ≤ x := Nat.div_le_self _ _
      have sh : A .ar .shl .u64 (X i) 8 = ((x / 256 ^ (nd x - i) * 256 : Nat) : Int) := by
        rw [hX]; refine shlU hA ?_
        rw [show nd x - i = nd x - 1 - i + 1 by omega]; omega
      have cu : A .ck .u64 V = V := by rw [hV]; exact ckU64 hA (by omega)
      have oo : A .ar .or .u64 ((x / 256 ^ (nd x - i) * 256 : Nat) : Int) V = X (i + 1) := by
        rw [hV, orU hA (by rw [show nd x - i = nd x - 1 - i + 1 by omega]; omega) (by omega), hX, show nd x - i = nd x - 1 - i + 1 by omega, dn, show nd x - (i + 1) = nd x - 1 - i by omega]
      have n8 : A .nn 8 = true := by rw [hA]; rfl
      have inc := addR hA (a := I i) (b := 1) (c := I (i + 1)) (by rw [hI, hI]; omega) (by rw [hI]; omega)
      generalize ((x / 256 ^ (nd x - i) * 256 : Nat) : Int) = Y at *
      generalize I (i + 1) = J1 at *
      generalize I i = J at *
      generalize X (i + 1) = X1 at *
      generalize X i = X0 at *
      refine wpV_of (by ((conv => lhs; cbv); (repeat ((first | rewrite [c] | rewrite [g] | rewrite [n8] | rewrite [sh] | rewrite [cu] | rewrite [oo] | rewrite [inc]); (try (conv => lhs; cbv)))); (try (with_reducible rfl)))) ?_
      refine headQ_of (by ((conv => lhs; cbv); (try (with_reducible rfl)))) ?_
      exact ⟨him, (by ((repeat (first | rewrite [sh] | rewrite [cu] | rewrite [oo] | rewrite [inc])); (try rfl)))⟩
    · obtain rfl : i = nd x := by omega
      have c := ltF hA (a := I (nd x)) (b := K) (by rw [hI, hK]; omega)
      generalize I (nd x) = J at *
      generalize X (nd x) = X0 at *
      refine wpV_of (by ((conv => lhs; cbv); (repeat ((first | rewrite [c]); (try (conv => lhs; cbv)))); (try (with_reducible rfl)))) ?_
      exact hQ
  have xl : X (nd x) = (x : Int) := by rw [hX, Nat.sub_self, Nat.pow_zero, Nat.div_one]
  have i0 : I 0 = 0 := hI 0
  have ne := neF hA (a := K) (b := K) rfl
  have n0 : A .nn K = true := by rw [hA, hK]; simp [real_nn]
  have hi8 : nd x < 8 → ∃ M T : Int, A .ar .shr .u8 255 K = M ∧ A .ar .and .u8 (fst8 x : Int) M = T ∧ A .ck .u64 T = X 0 := fun h => by
    refine ⟨((255 / 2 ^ nd x : Nat) : Int), ((x / 256 ^ nd x : Nat) : Int), shrN hA (k := .u8) (a := 255) (j := nd x) hK (by show _ ≤ 8; omega), and8 hA h (top_lt h), ?_⟩
    have le : x / 256 ^ nd x ≤ x := Nat.div_le_self _ _
    rw [ckU64 hA (by omega), hX, Nat.sub_zero]
  have lo8 : nd x = 8 → X 0 = 0 := fun h => by rw [hX, Nat.sub_zero, top_0 h x64]; rfl
  rw [← ho2, ← hn2, ← hS, ← hK] at k2
  rw [← ho2, ← hn2]
  rw [← hK] at k3 k4
  generalize ((255 - fst8 x : Nat) : Int) = NB at *
  rw [← xl] at k4 ⊢
  generalize X (nd x) = XL at *
  rw [i0] at tail
  have c8 : (nd x < 8 ∧ A .cmp .lss K 8 = true) ∨ (nd x = 8 ∧ A .cmp .lss K 8 = false) := by
    by_cases h : nd x < 8
    · exact .inl ⟨h, ltT hA (by omega)⟩
    · exact .inr ⟨by omega, ltF hA (by omega)⟩
  generalize hIL : I (nd x) = IL at *
  generalize hX0 : X 0 = X0 at *
  generalize (fst8 x : Int) = B0 at *
  generalize P.length + 1 = o1 at *
  generalize n - 1 = n1 at *
  generalize P.length = o0 at *
  rcases c8 with ⟨h, c⟩ | ⟨h, c⟩
  · obtain ⟨M, T, q1, q2, q3⟩ := hi8 h
    clear hi8 lo8 hX hI
    apply wpV_seq; refine wpV_of (by ((conv => lhs; cbv); (try (with_reducible rfl)))) ?_
    apply wpV_seq; refine wpV_of (by ((conv => lhs; cbv); (repeat ((first | rewrite [k1]); (try (conv => lhs; cbv)))); (try (with_reducible rfl)))) ?_
    apply wpV_seq; refine wpV_of (by ((conv => lhs; cbv); (try (with_reducible rfl)))) ?_
    apply wpV_seq; refine wpV_of (by ((conv => lhs; cbv); (repeat ((first | rewrite [g0] | rewrite [nt] | rewrite [k3]); (try (conv => lhs; cbv)))); (try (with_reducible rfl)))) ?_
    apply wpV_seq; refine wpV_of (by ((conv => lhs; cbv); (try (with_reducible rfl)))) ?_
    apply wpV_seq; refine wpV_of (by ((conv => lhs; cbv); (repeat ((first | rewrite [c] | rewrite [g0] | rewrite [n0] | rewrite [q1] | rewrite [q2] | rewrite [q3]); (try (conv => lhs; cbv)))); (try (with_reducible rfl)))) ?_
    apply wpV_seq; refine wpV_of (by ((conv => lhs; cbv); (repeat ((first | rewrite [q1] | rewrite [q2] | rewrite [q3] | rewrite [k2]); (try (conv => lhs; cbv)))); (try (with_reducible rfl)))) ?_
    apply wpV_seq; refine wpV_of (by ((conv => lhs; cbv); (try (with_reducible rfl)))) ?_
    apply wpV_seq; apply wpV_seq; refine wpV_of (by ((conv => lhs; cbv); (repeat ((first | rewrite [ls]); (try (conv => lhs; cbv)))); (try (with_reducible rfl)))) ?_
    refine tail _ _ (by ((conv => lhs; cbv); (repeat ((first | rewrite [ls] | rewrite [q1] | rewrite [q2] | rewrite [q3]); (try (conv => lhs; cbv)))); (try (with_reducible rfl)))) ?_
    show wpV _ _ _ _ _ _
    refine wpV_of (by ((conv => lhs; cbv); (repeat ((first | rewrite [k4] | rewrite [ne]); (try (conv => lhs; cbv)))); (try (with_reducible rfl)))) ?_
    (show finV _ _ _ = some _; ((conv => lhs; cbv); (try (with_reducible rfl))); (try rfl))
  · have hz := lo8 h
    rw [hz] at tail
    clear hi8 lo8 hX hI
    apply wpV_seq; refine wpV_of (by ((conv => lhs; cbv); (try (with_reducible rfl)))) ?_
    apply wpV_seq; refine wpV_of (by ((conv => lhs; cbv); (repeat ((first | rewrite [k1]); (try (conv => lhs; cbv)))); (try (with_reducible rfl)))) ?_
    apply wpV_seq; refine wpV_of (by ((conv => lhs; cbv); (try (with_reducible rfl)))) ?_
    apply wpV_seq; refine wpV_of (by ((conv => lhs; cbv); (repeat ((first | rewrite [g0] | rewrite [nt] | rewrite [k3]); (try (conv => lhs; cbv)))); (try (with_reducible rfl)))) ?_
    apply wpV_seq; refine wpV_of (by ((conv => lhs; cbv); (try (with_reducible rfl)))) ?_
    apply wpV_seq; refine wpV_of (by ((conv => lhs; cbv); (repeat ((first | rewrite [c]); (try (conv => lhs; cbv)))); (try (with_reducible rfl)))) ?_
    apply wpV_seq; refine wpV_of (by ((conv => lhs; cbv); (repeat ((first | rewrite [k2]); (try (conv => lhs; cbv)))); (try (with_reducible rfl)))) ?_
    apply wpV_seq; refine wpV_of (by ((conv => lhs; cbv); (try (with_reducible rfl)))) ?_
    apply wpV_seq; apply wpV_seq; refine wpV_of (by ((conv => lhs; cbv); (repeat ((first | rewrite [ls]); (try (conv => lhs; cbv)))); (try (with_reducible rfl)))) ?_
    refine tail _ _ (by ((conv => lhs; cbv); (repeat ((first | rewrite [ls]); (try (conv => lhs; cbv)))); (try (with_reducible rfl)))) ?_
    show wpV _ _ _ _ _ _
    refine wpV_of (by ((conv => lhs; cbv); (repeat ((first | rewrite [k4] | rewrite [ne]); (try (conv => lhs; cbv)))); (try (with_reducible rfl)))) ?_
    (show finV _ _ _ = some _; ((conv => lhs; cbv); (try (with_reducible rfl))); (try rfl))
end Go.Proofs.Ytomchclmnmhjaaa
