/- Numbers that rise are read: gone through. -/
import Derived.Test.YtomchclmnmhjaaaCDG
set_option linter.unusedSimpArgs false
set_option linter.unusedVariables false
set_option maxRecDepth 100000
set_option maxHeartbeats 1000000
set_option cbv.maxSteps 10000000
namespace Go.Proofs.Ytomchclmnmhjaaa
open Go GoV

theorem apoN {A : Ar} (hA : A = real) {es : List (List IV)} (b : Nat) (y : List IV) {n : Nat} (hn : n = es.length) (h : (es.length + 1) * b ≤ 211106232532992) : A .apo b 0 n es [y] = some (true, es ++ [y]) := by
  rw [hA, real_apo, hn]
  unfold rApo room
  rw [if_pos (by simp), if_pos ⟨by simpa using h, .inl rfl⟩]
  rfl
theorem getD_lt {l : List Nat} {b : Nat} (hb : 0 < b) (h : ∀ x, x ∈ l → x < b) (i : Nat) : l.getD i 0 < b := by
  by_cases hi : i < l.length
  · rw [List.getD_eq_getElem?_getD, List.getElem?_eq_getElem hi]; exact h _ (List.getElem_mem hi)
  · rw [List.getD_eq_getElem?_getD, List.getElem?_eq_none (by omega)]; exact hb
theorem gs_split (l : List Nat) : ∀ (i j : Nat), ∃ r, gs l (i + j) = gs l i ++ r
  | i, 0 => ⟨[], by simp⟩
  | i, j + 1 => by
    obtain ⟨r, hr⟩ := gs_split l i j
    exact ⟨r ++ enc (gap l (i + j)), by rw [← Nat.add_assoc]; simp only [gs]; rw [hr, List.append_assoc]⟩
theorem ints_next {l : List Nat} {i : Nat} (h : i < l.length) : ints (l.take (i + 1)) = ints (l.take i) ++ [[.int .i64 (l.getD i 0 : Int)]] := by
  rw [List.take_succ_eq_append_getElem h, List.getD_eq_getElem?_getD, List.getElem?_eq_getElem h]
  simp only [ints, List.map_append, Option.getD_some]
  rfl
theorem n91 (P l W : List Nat) (f : Bool) {many top : Int} (hp : l.Pairwise (· < ·)) (hl : l.length ≤ 1000) (hm : (l.length : Int) ≤ many) (ht : 0 ≤ top) (ht' : top < 4611686018427387904) (hv : ∀ x, x ∈ l → (x : Int) ≤ top) (hP : P.length + ((enc l.length ++ gs l l.length) ++ W).length ≤ 2 ^ 60) :
    Pn 1100 91 [rp, i64 many, i64 top] (rd (by8 (P ++ ((enc l.length ++ gs l l.length) ++ W))) P.length ((enc l.length ++ gs l l.length) ++ W).length f) (.one (.slo 2 0 l.length))
      (rd (by8 (P ++ ((enc l.length ++ gs l l.length) ++ W))) (P ++ (enc l.length ++ gs l l.length)).length W.length true ++ [.arr false false 1 (ints l)]) := by
  refine playN 1099 rfl rfl fun A call hA hcall => ?_
  have hv' : ∀ i, (l.getD i 0 : Int) ≤ top := fun i => by
    have := getD_lt (l := l) (b := top.toNat + 1) (by omega) (fun x hx => by have := hv x hx; omega) i; omega
  obtain ⟨m, hm'⟩ : ∃ m, m = l.length := ⟨_, rfl⟩
  rw [← hm'] at hm hl hP ⊢
  obtain ⟨M, hM⟩ : ∃ v : Int, v = m := ⟨_, rfl⟩
  obtain ⟨I, hI⟩ : ∃ I : Nat → Int, ∀ t, I t = t := ⟨_, fun _ => rfl⟩
  obtain ⟨Z, hZ⟩ : ∃ Z : Nat → Int, ∀ t, Z t = (pv l t : Int) - 1 := ⟨_, fun _ => rfl⟩
  obtain ⟨G, hG⟩ : ∃ G : Nat → Int, ∀ t, G t = (gap l t : Int) := ⟨_, fun _ => rfl⟩
  obtain ⟨R, hR⟩ : ∃ R : Nat → List Nat, ∀ i, i ≤ m → gs l m = gs l i ++ R i := by
    refine ⟨fun i => (gs l m).drop (gs l i).length, fun i hi => ?_⟩
    obtain ⟨r, hr⟩ := gs_split l i (m - i)
    rw [show i + (m - i) = m by omega] at hr
    rw [hr]; simp
  obtain ⟨Q, hQ⟩ : ∃ Q : Nat → List Nat, ∀ i, Q i = P ++ (enc m ++ gs l i) := ⟨_, fun _ => rfl⟩
  obtain ⟨es, hes⟩ : ∃ es, es = by8 (P ++ ((enc m ++ gs l m) ++ W)) := ⟨_, rfl⟩
  obtain ⟨O, hO⟩ : ∃ O : Nat → Nat, ∀ i, O i = (Q i).length := ⟨_, fun _ => rfl⟩
  obtain ⟨N, hN⟩ : ∃ N : Nat → Nat, ∀ i, N i = (R i ++ W).length := ⟨_, fun _ => rfl⟩
  obtain ⟨E, hE⟩ : ∃ E : Nat → List (List IV), ∀ i, E i = ints (l.take i) := ⟨_, fun _ => rfl⟩
  have q0 : P ++ ((enc m ++ gs l m) ++ W) = P ++ (enc m ++ (gs l m ++ W)) := by simp
  have qi : ∀ i, i < m → P ++ ((enc m ++ gs l m) ++ W) = Q i ++ (enc (gap l i) ++ (R (i + 1) ++ W)) := fun i hi => by
    rw [hR (i + 1) (by omega), hQ]; simp [gs]
  have ri : ∀ i, i < m → R i ++ W = enc (gap l i) ++ (R (i + 1) ++ W) := fun i hi => by
    have a := qi i hi
    rw [hR i (by omega), hQ] at a
    simp only [List.append_assoc, List.append_cancel_left_eq] at a
    simpa using a
  have rm : R m = [] := by have := hR m (by omega); simpa using this.symm
  have sz : ∀ i, i ≤ m → (Q i).length + (R i ++ W).length ≤ 2 ^ 60 := fun i hi => by
    have a := hR i hi
    rw [a] at hP
    rw [hQ]
    simp only [List.length_append] at *
    omega
  have k0 := n92 P (gs l m ++ W) f (x := m) (most := many) (by omega) hm (by rw [q0] at *; simp only [List.length_append] at *; omega) 1099 (by omega)
  rw [← q0, ← hes, ← hcall, ← hM] at k0
  have n0 : (enc m ++ (gs l m ++ W)).length = ((enc m ++ gs l m) ++ W).length := by simp
  have o0 : (P ++ enc m).length = O 0 := by rw [hO, hQ]; simp [gs]
  have nn0 : (gs l m ++ W).length = N 0 := by rw [hN, hR 0 (by omega)]; simp [gs]
  rw [n0, o0, nn0] at k0
  have k1 : ∀ i, i < m → call 92 [rp, i64 (top - Z i - 1)] (rd es (O i) (N i) true) = some (i64 (G i), rd es (O (i + 1)) (N (i + 1)) true) := fun i hi => by
    have a := pv_le hp (i := i) (by omega)
    have b := hv' i
    have := n92 (Q i) (R (i + 1) ++ W) true (x := gap l i) (most := top - Z i - 1) (by unfold gap; omega) (by rw [hZ]; unfold gap; omega) (by rw [← ri i hi]; exact sz i (by omega)) 1099 (by omega)
    have e1 : Q (i + 1) = Q i ++ enc (gap l i) := by rw [hQ, hQ]; simp [gs]
    rw [← qi i hi, ← hes, ← ri i hi, ← hN, ← hO, ← hG, ← hN, ← e1, ← hO, ← hcall] at this
    exact this
  have k2 : ∀ i, call 47 [rp] (rd es (O i) (N i) true) = some (i64 0, rd es (O i) (N i) true) := fun i => by
    have := n47 es (O i) (N i) true 1099 (by omega)
    rw [← hcall] at this; exact this
  have arith : ∀ i, i < m → A .ar .sub .i64 top (Z i) = top - Z i ∧ A .ar .sub .i64 (top - Z i) 1 = top - Z i - 1 ∧ A .ar .add .i64 1 (G i) = 1 + G i ∧ A .ar .add .i64 (Z i) (1 + G i) = Z (i + 1) := fun i hi => by
    have a := pv_le hp (i := i) (by omega)
    have b := hv' i
    have e1 : Z (i + 1) = l.getD i 0 := by rw [hZ, pv_succ]; omega
    have e2 : G i = l.getD i 0 - pv l i := by rw [hG]; unfold gap; omega
    have e3 := hZ i
    exact ⟨subR hA rfl (by omega), subR hA rfl (by omega), addR hA rfl (by omega), addR hA (by omega) (by omega)⟩
  have mx := mxR hA (a := top) (b := -1) (c := top) (by omega)
  have ne := neF hA (a := 0) (b := 0) rfl
  have ap : ∀ i, i < m → A .apo 8 0 i (E i) [[.int .i64 (Z (i + 1))]] = some (true, E (i + 1)) := fun i hi => by
    have hl : i = (E i).length := by rw [hE, ints_len, List.length_take]; omega
    rw [apoN hA 8 _ hl (by rw [← hl]; omega), hE, hE, ints_next (by omega), hZ, pv_succ]
    simp
  have ln : ∀ i, i ≤ m → A .ln (E i) = i := fun i hi => by rw [hA]; show (E i).length = i; rw [hE, ints_len, List.length_take]; omega
  have inc : ∀ i, i < m → A .ar .add .i64 (I i) 1 = I (i + 1) := fun i hi => addR hA (by rw [hI, hI]; omega) (by rw [hI]; omega)
  have i0 : I 0 = 0 := hI 0
  have z0 : Z 0 = -1 := by rw [hZ]; rfl
  have e0 : E 0 = [] := by rw [hE]; rfl
  have em : E m = ints l := by rw [hE, hm', List.take_length]
  have om : (P ++ (enc m ++ gs l m)).length = O m := by rw [hO, hQ]
  have nm : W.length = N m := by rw [hN, rm]; rfl
  rw [← hes, om, nm, ← em]
  clear hes hQ hR hO hN hE hv hv' hp q0 qi ri rm sz n0 o0 nn0 em om nm hP
  generalize P.length = oP at *
  generalize ((enc m ++ gs l m) ++ W).length = nP at *
  apply wpV_seq; refine wpV_of (by ((conv => lhs; cbv); (try (with_reducible rfl)))) ?_
  apply wpV_seq; refine wpV_of (by ((conv => lhs; cbv); (repeat ((first | rewrite [k0]); (try (conv => lhs; cbv)))); (try (with_reducible rfl)))) ?_
  apply wpV_seq; refine wpV_of (by ((conv => lhs; cbv); (try (with_reducible rfl)))) ?_
  apply wpV_seq; refine wpV_of (by ((conv => lhs; cbv); (try (with_reducible rfl)))) ?_
  apply wpV_seq; apply wpV_seq; refine wpV_of (by ((conv => lhs; cbv); (try (with_reducible rfl)))) ?_
  apply wpV_block
  refine wpV_loop m (fun i st => st = ⟨2, [rp, u, i64 top, u, u, u, u, u, .one (.slo 2 0 i), i64 (Z i), u, u, u, i64 M, i64 (I i), u, u, u, u, u, u, u, u, u, u, u, u, u, u, u, u, u, u, u, u], [.var false [.slo 1 (O i) (N i), .iv (.int .i64 0), .iv (.bool true)], .arr true false 1 es, .arr false false 1 (E i)]⟩) (by omega) (by ((conv => lhs; cbv); (try (with_reducible rfl)))) (by rw [i0, z0, e0]) ?_
  rintro i hi st rfl
  by_cases him : i < m
  · have c := ltT hA (a := I i) (b := M) (by rw [hI, hM]; omega)
    obtain ⟨s1, s2, s3, s4⟩ := arith i him
    have k := k1 i him
    have k' := k2 (i + 1)
    have a := ap i him
    have ii := inc i him
    have l1 := ln (i + 1) (by omega)
    generalize top - Z i - 1 = U1 at *
    generalize top - Z i = U0 at *
    generalize 1 + G i = G1 at *
    generalize G i = G0 at *
    generalize I (i + 1) = J1 at *
    generalize I i = J at *
    generalize Z (i + 1) = Z1 at *
    generalize Z i = Z0 at *
    generalize E (i + 1) = E1 at *
    generalize E i = E0 at *
    generalize N (i + 1) = N1 at *
    generalize N i = N0 at *
    generalize O (i + 1) = O1 at *
    generalize O i = O0 at *
    generalize hi1 : i + 1 = i1 at *
    refine wpV_of (by ((conv => lhs; cbv); (repeat ((first | rewrite [c] | rewrite [mx] | rewrite [s1] | rewrite [s2] | rewrite [k] | rewrite [s3] | rewrite [s4] | rewrite [k'] | rewrite [ne] | rewrite [a] | rewrite [l1]); (try (conv => lhs; cbv)))); (try (with_reducible rfl)))) ?_
    refine headQ_of (by ((conv => lhs; cbv); (try (with_reducible rfl)))) ?_
    exact ⟨him, (by ((repeat (first | rewrite [s3] | rewrite [s4] | rewrite [l1] | rewrite [ii])); (try rfl)))⟩
  · obtain rfl : i = m := by omega
    have c := ltF hA (a := I i) (b := M) (by rw [hI, hM]; omega)
    generalize I i = J at *
    generalize Z i = X0 at *
    generalize E i = E0 at *
    generalize N i = N0 at *
    generalize O i = O0 at *
    refine wpV_of (by ((conv => lhs; cbv); (repeat ((first | rewrite [c]); (try (conv => lhs; cbv)))); (try (with_reducible rfl)))) ?_
    show wpV _ _ _ _ _ _
    refine wpV_of (by ((conv => lhs; cbv); (try (with_reducible rfl)))) ?_
    (show finV _ _ _ = some _; ((conv => lhs; cbv); (try (with_reducible rfl))); (try rfl))
end Go.Proofs.Ytomchclmnmhjaaa
