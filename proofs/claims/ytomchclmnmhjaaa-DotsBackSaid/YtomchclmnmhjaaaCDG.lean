/- Numbers that rise, behind bytes: gone through. -/
import Derived.Test.YtomchclmnmhjaaaCDF
set_option linter.unusedSimpArgs false
set_option linter.unusedVariables false
set_option maxRecDepth 100000
set_option maxHeartbeats 1000000
set_option cbv.maxSteps 10000000
namespace Go.Proofs.Ytomchclmnmhjaaa
open Go GoV

theorem n92 (P W : List Nat) (f : Bool) {x : Nat} {most : Int} (hx : x < 2 ^ 63) (hm : (x : Int) ≤ most) (hl : P.length + (enc x ++ W).length ≤ 2 ^ 60) : Pn 13 92 [rp, i64 most] (rd (by8 (P ++ (enc x ++ W))) P.length (enc x ++ W).length f) (i64 x) (rd (by8 (P ++ (enc x ++ W))) (P ++ enc x).length W.length true) := by
  refine playN 12 rfl rfl fun A call hA hcall => ?_
  have k1 := n122 P W f hx hl 12 (by omega)
  rw [← hcall] at k1
  have s1 : A .ar .shr .u64 (x : Int) 63 = ((x / 2 ^ 63 : Nat) : Int) := shrN hA (k := .u64) (j := 63) rfl (by decide)
  rw [Nat.div_eq_of_lt hx] at s1
  have n1 : A .nn 63 = true := by rw [hA]; rfl
  have e1 := eqF hA (a := 0) (b := 1) (by omega)
  have c1 := ckI64 hA (a := x) hx
  have g1 := gtF hA (a := (x : Int)) (b := most) hm
  have z0 : ((0 : Nat) : Int) = 0 := rfl
  rw [z0] at s1
  generalize by8 (P ++ (enc x ++ W)) = es at *
  generalize P.length = o at *
  generalize (enc x ++ W).length = n at *
  generalize (P ++ enc x).length = o2 at *
  generalize W.length = n2 at *
  generalize (x : Int) = X at *
  refine wpV_of (by ((conv => lhs; cbv); (repeat ((first | rewrite [k1] | rewrite [n1] | rewrite [s1] | rewrite [e1] | rewrite [c1] | rewrite [g1]); (try (conv => lhs; cbv)))); (try (with_reducible rfl)))) ?_
  (show finV _ _ _ = some _; ((conv => lhs; cbv); (repeat ((first | rewrite [n1] | rewrite [s1] | rewrite [e1] | rewrite [c1] | rewrite [g1]); (try (conv => lhs; cbv)))); (try (with_reducible rfl))); (try rfl))
theorem appn {A : Ar} (hA : A = real) (ys : List (List IV)) (h : ys.length ≤ 211106232532992) : A .app 1 [] ys = some (false, ys) := by
  rw [hA, real_app]
  unfold rApp room
  rw [if_neg (by simp), if_pos (by simpa using h)]
  rfl
theorem n45 (es : List (List IV)) (t : Bool) (z : Nat) (hz : z = 0 ∨ z = 1) (h : es.length ≤ 211106232532992) : Pn 1 45 [.one (.iv (.sl t z es))] [] rp (rd es 0 es.length false) := by
  refine playN 0 rfl rfl fun A call hA hcall => ?_
  have a1 := appn hA es h
  have l1 : A .ln es = es.length := by rw [hA]; rfl
  generalize es.length = n at *
  rcases hz with rfl | rfl
  all_goals
    refine wpV_of (by ((conv => lhs; cbv); (repeat ((first | rewrite [a1] | rewrite [l1]); (try (conv => lhs; cbv)))); (try (with_reducible rfl)))) ?_
    (show finV _ _ _ = some _; ((conv => lhs; cbv); (repeat ((first | rewrite [a1] | rewrite [l1]); (try (conv => lhs; cbv)))); (try (with_reducible rfl))); (try rfl))
/-! ### Numbers that rise -/
def ints (l : List Nat) : List (List IV) := l.map fun (b : Nat) => [.int .i64 (b : Int)]
theorem ints_len (l : List Nat) : (ints l).length = l.length := by simp [ints]
/-- What is ahead of the i-th, and one. -/
def pv (l : List Nat) (i : Nat) : Nat := if i = 0 then 0 else l.getD (i - 1) 0 + 1
def gap (l : List Nat) (i : Nat) : Nat := l.getD i 0 - pv l i
def gs (l : List Nat) : Nat → List Nat
  | 0 => []
  | i + 1 => gs l i ++ enc (gap l i)
theorem gs_len (l : List Nat) (i : Nat) : (gs l i).length ≤ 9 * i := by
  induction i with
  | zero => simp [gs]
  | succ i ih => simp only [gs, List.length_append, enc_len]; have := nd_le (gap l i); omega
theorem pv_le {l : List Nat} (hp : l.Pairwise (· < ·)) {i : Nat} (hi : i < l.length) : pv l i ≤ l.getD i 0 := by
  unfold pv
  split
  · omega
  · rw [List.getD_eq_getElem?_getD, List.getD_eq_getElem?_getD, List.getElem?_eq_getElem hi, List.getElem?_eq_getElem (show i - 1 < l.length by omega)]
    have := List.pairwise_iff_getElem.1 hp (i - 1) i (by omega) hi (by omega)
    exact this
theorem pv_succ (l : List Nat) (i : Nat) : pv l (i + 1) = l.getD i 0 + 1 := rfl
theorem subAll {A : Ar} (hA : A = real) {es : List (List IV)} {n : Int} (hn : n = es.length) : A .sub es none (some n) = some es := by
  rw [hA, real_sub, hn]
  unfold rSub rCut rBound
  simp
theorem n89 (B l : List Nat) (t t2 : Bool) (z : Nat) (hz : z = 0 ∨ z = 1) (hp : l.Pairwise (· < ·)) (hl : l.length ≤ 1000) (hv : ∀ x, x ∈ l → x < 2 ^ 62) (hB : B.length ≤ 199999999900000) :
    Pn 1100 89 [.one (.iv (.sl t z (by8 B))), .one (.iv (.sl t2 1 (ints l)))] [] (.one (.slo 0 0 (B ++ (enc l.length ++ gs l l.length)).length)) [.arr false false 1 (by8 (B ++ (enc l.length ++ gs l l.length)))] := by
  refine playN 1099 rfl rfl fun A call hA hcall => ?_
  have hv' : ∀ i, l.getD i 0 < 2 ^ 62 := fun i => by
    by_cases h : i < l.length
    · rw [List.getD_eq_getElem?_getD, List.getElem?_eq_getElem h]; exact hv _ (List.getElem_mem h)
    · rw [List.getD_eq_getElem?_getD, List.getElem?_eq_none (by omega)]; simp
  obtain ⟨m, hm⟩ : ∃ m, m = l.length := ⟨_, rfl⟩
  obtain ⟨M, hM⟩ : ∃ v : Int, v = m := ⟨_, rfl⟩
  obtain ⟨I, hI⟩ : ∃ I : Nat → Int, ∀ t, I t = t := ⟨_, fun _ => rfl⟩
  obtain ⟨V, hV⟩ : ∃ V : Nat → Int, ∀ t, V t = l.getD t 0 := ⟨_, fun _ => rfl⟩
  obtain ⟨Z, hZ⟩ : ∃ Z : Nat → Int, ∀ t, Z t = (pv l t : Int) - 1 := ⟨_, fun _ => rfl⟩
  obtain ⟨G, hG⟩ : ∃ G : Nat → Int, ∀ t, G t = (gap l t : Int) := ⟨_, fun _ => rfl⟩
  obtain ⟨S, hS⟩ : ∃ S, S = ints l := ⟨_, rfl⟩
  obtain ⟨C, hC⟩ : ∃ C : Nat → List Nat, ∀ i, C i = B ++ (enc l.length ++ gs l i) := ⟨_, fun _ => rfl⟩
  obtain ⟨E, hE⟩ : ∃ E : Nat → List (List IV), ∀ i, E i = by8 (C i) := ⟨_, fun _ => rfl⟩
  obtain ⟨N, hN⟩ : ∃ N : Nat → Nat, ∀ i, N i = (C i).length := ⟨_, fun _ => rfl⟩
  have cl : ∀ i, i ≤ m → (C i).length ≤ 200000000000000 := fun i hi => by
    rw [hC, List.length_append, List.length_append, enc_len]; have := nd_le l.length; have := gs_len l i; omega
  have lS : A .len S = M := by rw [hA, real_len, hS, ints_len, hM, hm]
  have gS : ∀ i, i < m → A .get S (I i) = some [.int .i64 (V i)] := fun i hi => by
    rw [hA, hI]
    refine get_real _ i ?_
    rw [hS, ints, List.getElem?_map, List.getElem?_eq_getElem (by omega), hV, List.getD_eq_getElem?_getD, List.getElem?_eq_getElem (by omega)]
    rfl
  have inc : ∀ i, i < m → A .ar .add .i64 (I i) 1 = I (i + 1) := fun i hi => addR hA (by rw [hI, hI]; omega) (by rw [hI]; omega)
  have vz : ∀ i, i < m → V i = Z (i + 1) := fun i hi => by rw [hV, hZ, pv_succ]; omega
  have i0 : I 0 = 0 := hI 0
  have z0 : Z 0 = -1 := by rw [hZ]; rfl
  have sg : ∀ i, A .seg (E i) 0 (N i) = E i := fun i => by rw [hA]; show rSeg _ _ _ = _; unfold rSeg; rw [List.drop_zero, List.take_of_length_le (by rw [hE, hN, by8_len]; omega)]
  have k0 := n90 B t z hz (x := m) (by omega) (by omega) 1099 (by omega)
  have c0 : C 0 = B ++ enc m := by rw [hC, hm]; simp [gs]
  rw [← c0, ← hN, ← hE, ← hM] at k0
  have k1 : ∀ i, i < m → ∀ t, call 90 [.one (.iv (.sl t 1 (E i))), i64 (G i)] [] = some (.one (.slo 0 0 (N (i + 1))), [.arr false false 1 (E (i + 1))]) := fun i hi t => by
    have := n90 (C i) t 1 (.inr rfl) (x := gap l i) (by unfold gap; have := hv' i; omega) (cl i (by omega)) 1099 (by omega)
    have c1 : C (i + 1) = C i ++ enc (gap l i) := by rw [hC, hC]; simp [gs]
    rw [← c1, ← hN, ← hE, ← hE, ← hG, ← hcall] at this
    exact this
  rw [← hcall] at k0
  have fin : B ++ (enc l.length ++ gs l l.length) = C m := by rw [hC, hm]
  rw [fin, ← hN, ← hE, ← hS]
  have sub : A .sub S none (some M) = some S := by
    exact subAll hA (by rw [hM, hS, ints_len, hm])
  have cs : ∀ i, i < m → A .ar .sub .i64 (V i) (Z i) = G i + 1 ∧ A .ar .sub .i64 (G i + 1) 1 = G i := fun i hi => by
    have a := pv_le hp (i := i) (by omega)
    have b := hv' i
    have e : G i = V i - Z i - 1 := by rw [hG, hV, hZ]; unfold gap; omega
    have e0 : 0 ≤ G i := by rw [hG]; omega
    exact ⟨subR hA (by omega) (by rw [hG] at *; unfold gap at *; omega), subR hA (by omega) (by rw [hG] at *; unfold gap at *; omega)⟩
  have tail : ∀ (Q : Ex → St → Prop) (st0 : St), headV false [6, 7, 33, 34, 35] st0 = some ⟨0, (u :: u :: u :: u :: u :: u :: i64 (Z 0) :: .one (.slo 0 0 (N 0)) :: u :: u :: u :: u :: u :: u :: u :: u :: u :: u :: u :: u :: u :: u :: u :: u :: u :: u :: u :: u :: u :: u :: u :: u :: u :: .one (.iv (.sl false 1 S)) :: i64 M :: i64 (I 0) :: u :: u :: u :: u :: u :: u :: u :: u :: u :: u :: u :: u :: []), [.arr false false 1 (E 0)]⟩ →
      Q .normal ⟨0, (u :: u :: u :: u :: u :: u :: i64 (Z m) :: .one (.slo 0 0 (N m)) :: u :: u :: u :: u :: u :: u :: u :: u :: u :: u :: u :: u :: u :: u :: u :: u :: u :: u :: u :: u :: u :: u :: u :: u :: u :: .one (.iv (.sl false 1 S)) :: i64 M :: i64 (I m) :: bl false :: u :: u :: u :: u :: u :: u :: u :: u :: u :: u :: u :: []), [.arr false false 1 (E m)]⟩ → wpV A call (iterN 1099) (.block 2 (.loop false [6, 7, 33, 34, 35] l89_1)) st0 Q := by
    intro Q st0 hst hQ
    apply wpV_block
    refine wpV_loop m (fun i st => st = ⟨0, (u :: u :: u :: u :: u :: u :: i64 (Z i) :: .one (.slo 0 0 (N i)) :: u :: u :: u :: u :: u :: u :: u :: u :: u :: u :: u :: u :: u :: u :: u :: u :: u :: u :: u :: u :: u :: u :: u :: u :: u :: .one (.iv (.sl false 1 S)) :: i64 M :: i64 (I i) :: u :: u :: u :: u :: u :: u :: u :: u :: u :: u :: u :: u :: []), [.arr false false 1 (E i)]⟩) (by omega) hst rfl ?_
    rintro i hi st rfl
    by_cases him : i < m
    · have c := ltT hA (a := I i) (b := M) (by rw [hI, hM]; omega)
      have g := gS i him
      obtain ⟨s1, s2⟩ := cs i him
      have k := k1 i him
      have sgi := sg i
      have ii := inc i him
      have vi := vz i him
      generalize G i + 1 = G1 at *
      generalize G i = G0 at *
      generalize I (i + 1) = J1 at *
      generalize I i = J at *
      generalize Z (i + 1) = Z1 at *
      generalize Z i = Z0 at *
      generalize E (i + 1) = E1 at *
      generalize E i = E0 at *
      generalize N (i + 1) = N1 at *
      generalize N i = N0 at *
      generalize V i = X at *
      subst vi
      have k' := k (A .isE E0)
      refine wpV_of (by ((conv => lhs; cbv); (repeat ((first | rewrite [c] | rewrite [g] | rewrite [s1] | rewrite [s2] | rewrite [sgi] | rewrite [k']); (try (conv => lhs; cbv)))); (try (with_reducible rfl)))) ?_
      refine headQ_of (by ((conv => lhs; cbv); (try (with_reducible rfl)))) ?_
      exact ⟨him, (by ((repeat (first | rewrite [ii])); (try rfl)))⟩
    · obtain rfl : i = m := by omega
      have c := ltF hA (a := I i) (b := M) (by rw [hI, hM]; omega)
      generalize I i = J at *
      generalize Z i = X0 at *
      generalize E i = E0 at *
      generalize N i = N0 at *
      refine wpV_of (by ((conv => lhs; cbv); (repeat ((first | rewrite [c]); (try (conv => lhs; cbv)))); (try (with_reducible rfl)))) ?_
      exact hQ
  generalize by8 B = es0 at *
  apply wpV_seq; refine wpV_of (by ((conv => lhs; cbv); (try (with_reducible rfl)))) ?_
  apply wpV_seq; refine wpV_of (by ((conv => lhs; cbv); (try (with_reducible rfl)))) ?_
  apply wpV_seq
  apply wpV_block
  refine wpV_loop m (fun i st => st = ⟨0, (.one (.iv (.sl t z es0)) :: .one (.iv (.sl t2 1 S)) :: u :: u :: u :: i64 (I i) :: i64 (Z i) :: u :: u :: u :: u :: u :: u :: u :: u :: u :: u :: u :: u :: u :: u :: u :: u :: u :: u :: u :: u :: u :: u :: u :: u :: u :: u :: u :: u :: u :: u :: u :: u :: u :: u :: u :: u :: u :: u :: u :: u :: u :: []), []⟩) (by omega) (by ((conv => lhs; cbv); (try (with_reducible rfl)))) (by rw [i0, z0]) ?_
  rintro i hi st rfl
  by_cases him : i < m
  · have c := ltT hA (a := I i) (b := M) (by rw [hI, hM]; omega)
    have g := gS i him
    have ii := inc i him
    have vi := vz i him
    have gt := gtT hA (a := V i) (b := Z i) (by have := pv_le hp (i := i) (by omega); rw [hV, hZ]; omega)
    generalize I (i + 1) = J1 at *
    generalize I i = J at *
    generalize Z (i + 1) = Z1 at *
    generalize Z i = Z0 at *
    generalize V i = X at *
    subst vi
    refine wpV_of (by ((conv => lhs; cbv); (repeat ((first | rewrite [lS] | rewrite [c] | rewrite [g] | rewrite [gt]); (try (conv => lhs; cbv)))); (try (with_reducible rfl)))) ?_
    refine headQ_of (by ((conv => lhs; cbv); (try (with_reducible rfl)))) ?_
    exact ⟨him, (by ((repeat (first | rewrite [ii])); (try rfl)))⟩
  · obtain rfl : i = m := by omega
    have c := ltF hA (a := I i) (b := M) (by rw [hI, hM]; omega)
    have im : I i = M := by rw [hI, hM]
    rw [im] at c ⊢
    generalize hZi : Z i = X0 at *
    refine wpV_of (by ((conv => lhs; cbv); (repeat ((first | rewrite [lS] | rewrite [c]); (try (conv => lhs; cbv)))); (try (with_reducible rfl)))) ?_
    show wpV _ _ _ _ _ _
    apply wpV_seq; refine wpV_of (by ((conv => lhs; cbv); (repeat ((first | rewrite [k0]); (try (conv => lhs; cbv)))); (try (with_reducible rfl)))) ?_
    apply wpV_seq; refine wpV_of (by ((conv => lhs; cbv); (try (with_reducible rfl)))) ?_
    apply wpV_seq; apply wpV_seq; refine wpV_of (by ((conv => lhs; cbv); (repeat ((first | rewrite [sub] | rewrite [lS]); (try (conv => lhs; cbv)))); (try (with_reducible rfl)))) ?_
    refine tail _ _ (by ((conv => lhs; cbv); (repeat ((first | rewrite [sub] | rewrite [lS] | rewrite [i0] | rewrite [z0]); (try (conv => lhs; cbv)))); (try (with_reducible rfl)))) ?_
    show wpV _ _ _ _ _ _
    refine wpV_of (by ((conv => lhs; cbv); (try (with_reducible rfl)))) ?_
    (show finV _ _ _ = some _; ((conv => lhs; cbv); (try (with_reducible rfl))); (try rfl))
end Go.Proofs.Ytomchclmnmhjaaa
