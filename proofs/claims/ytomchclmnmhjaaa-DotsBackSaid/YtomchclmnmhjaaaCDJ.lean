/- A vector is read: gone through. -/
import Derived.Test.YtomchclmnmhjaaaCDI
set_option linter.unusedSimpArgs false
set_option linter.unusedVariables false
set_option maxRecDepth 100000
set_option maxHeartbeats 1000000
set_option cbv.maxSteps 10000000
namespace Go.Proofs.Ytomchclmnmhjaaa
open Go GoV

theorem es2_split (f : Nat → Nat) : ∀ (i j : Nat), ∃ r, es2 f (i + j) = es2 f i ++ r
  | i, 0 => ⟨[], by simp⟩
  | i, j + 1 => by
    obtain ⟨r, hr⟩ := es2_split f i j
    exact ⟨r ++ enc (f (i + j)), by rw [← Nat.add_assoc]; simp only [es2]; rw [hr, List.append_assoc]⟩
/-- The vector as far as it is read: the places of the first i. -/
def part (v : List Int) (l : List Nat) (i : Nat) : List Int := (List.range 64).map fun j => if j ∈ l.take i then v.getD j 0 else 0
theorem part_len (v : List Int) (l : List Nat) (i : Nat) : (part v l i).length = 64 := by simp [part]
theorem part_0 (v : List Int) (l : List Nat) : part v l 0 = List.replicate 64 0 := by
  apply List.ext_getElem
  · simp [part]
  · intro i h1 h2
    simp only [part, List.getElem_map, List.getElem_replicate, List.take_zero, List.not_mem_nil, if_false]
theorem part_set {v : List Int} {l : List Nat} {i : Nat} (h : i < l.length) (hl : l.getD i 0 < 64) : (part v l i).set (l.getD i 0) (v.getD (l.getD i 0) 0) = part v l (i + 1) := by
  have e : l.take (i + 1) = l.take i ++ [l.getD i 0] := by
    rw [List.take_succ_eq_append_getElem h, List.getD_eq_getElem?_getD, List.getElem?_eq_getElem h]; rfl
  apply List.ext_getElem
  · simp [part]
  · intro j h1 h2
    simp only [part, List.getElem_set, List.getElem_map, List.getElem_range, e, List.mem_append, List.mem_singleton]
    by_cases c : l.getD i 0 = j
    · rw [if_pos c, if_pos (.inr c.symm), c]
    · rw [if_neg c]
      by_cases d : j ∈ l.take i
      · rw [if_pos d, if_pos (.inl d)]
      · rw [if_neg d, if_neg (by rintro (x | x); exact d x; exact c x.symm)]
theorem part_all {v : List Int} (hv : v.length = 64) (hg : goodB v = true) : part v (ats v 64) (ats v 64).length = v := by
  apply List.ext_getElem
  · rw [part_len, hv]
  · intro j h1 h2
    simp only [part, List.getElem_map, List.getElem_range, List.take_length]
    have e : v.getD j 0 = v[j] := by rw [List.getD_eq_getElem?_getD, List.getElem?_eq_getElem h2]; rfl
    have g := goodB_get hg (i := j) (by omega)
    by_cases c : j ∈ ats v 64
    · rw [if_pos c, e]
    · rw [if_neg c]
      have : ¬ 0 < v.getD j 0 := fun h => c (ats_mem.2 ⟨by omega, h⟩)
      omega
theorem n46 {v : List Int} (hv : v.length = 64) (hg : goodB v = true) (P W : List Nat) (f : Bool) (hP : P.length + (putB v ++ W).length ≤ 2 ^ 60) :
    Pn 1200 46 [rp] (rd (by8 (P ++ (putB v ++ W))) P.length (putB v ++ W).length f) (vecF v) (rd (by8 (P ++ (putB v ++ W))) (P ++ putB v).length W.length true) := by
  refine playN 1199 rfl rfl fun A call hA hcall => ?_
  obtain ⟨l, hl⟩ : ∃ l, l = ats v 64 := ⟨_, rfl⟩
  have lp : l.Pairwise (· < ·) := by rw [hl]; exact ats_pw _ _
  have ll : l.length ≤ 64 := by rw [hl]; exact ats_len _ _
  have lm : ∀ x, x ∈ l → x < 64 := fun x hx => by rw [hl] at hx; exact (ats_mem.1 hx).1
  obtain ⟨m, hm⟩ : ∃ m, m = l.length := ⟨_, rfl⟩
  obtain ⟨M, hM⟩ : ∃ v : Int, v = m := ⟨_, rfl⟩
  obtain ⟨I, hI⟩ : ∃ I : Nat → Int, ∀ t, I t = t := ⟨_, fun _ => rfl⟩
  obtain ⟨V, hV⟩ : ∃ V : Nat → Int, ∀ t, V t = v.getD (l.getD t 0) 0 := ⟨_, fun _ => rfl⟩
  obtain ⟨G, hG⟩ : ∃ G : Nat → Int, ∀ t, G t = (fv v t : Int) := ⟨_, fun _ => rfl⟩
  obtain ⟨X, hX⟩ : ∃ X : Nat → Int, ∀ t, X t = l.getD t 0 := ⟨_, fun _ => rfl⟩
  obtain ⟨Y, hY⟩ : ∃ Y : Nat → List IV, ∀ t, Y t = vec (part v l t) := ⟨_, fun _ => rfl⟩
  have vv : ∀ i, i < m → 0 < v.getD (l.getD i 0) 0 ∧ l.getD i 0 < 64 := fun i hi => by
    have : l.getD i 0 ∈ l := by rw [List.getD_eq_getElem?_getD, List.getElem?_eq_getElem (by omega)]; exact List.getElem_mem _
    have h2 := lm _ this
    have h3 : l.getD i 0 ∈ ats v 64 := by rw [← hl]; exact this
    exact ⟨(ats_mem.1 h3).2, h2⟩
  have fe : ∀ i, fv v i = (v.getD (l.getD i 0) 0 - 1).toNat := fun i => by rw [hl]; rfl
  have vg : ∀ i, i < m → V i = G i + 1 ∧ G i ≤ 1073741823 ∧ 0 ≤ G i := fun i hi => by
    have a := vv i hi
    have b := goodB_get hg a.2
    rw [hV, hG, fe]; omega
  obtain ⟨R, hR⟩ : ∃ R : Nat → List Nat, ∀ i, i ≤ m → es2 (fv v) m = es2 (fv v) i ++ R i := by
    refine ⟨fun i => (es2 (fv v) m).drop (es2 (fv v) i).length, fun i hi => ?_⟩
    obtain ⟨r, hr⟩ := es2_split (fv v) i (m - i)
    rw [show i + (m - i) = m by omega] at hr
    rw [hr]; simp
  obtain ⟨H, hH⟩ : ∃ H, H = enc m ++ gs l m := ⟨_, rfl⟩
  have pe : putB v = H ++ es2 (fv v) m := by rw [hH, hm, hl]; rfl
  obtain ⟨Q, hQ⟩ : ∃ Q : Nat → List Nat, ∀ i, Q i = P ++ (H ++ es2 (fv v) i) := ⟨_, fun _ => rfl⟩
  obtain ⟨es, hes⟩ : ∃ es, es = by8 (P ++ (putB v ++ W)) := ⟨_, rfl⟩
  obtain ⟨O, hO⟩ : ∃ O : Nat → Nat, ∀ i, O i = (Q i).length := ⟨_, fun _ => rfl⟩
  obtain ⟨N, hN⟩ : ∃ N : Nat → Nat, ∀ i, N i = (R i ++ W).length := ⟨_, fun _ => rfl⟩
  have q0 : P ++ (putB v ++ W) = P ++ (H ++ (es2 (fv v) m ++ W)) := by rw [pe]; simp
  have qi : ∀ i, i < m → P ++ (putB v ++ W) = Q i ++ (enc (fv v i) ++ (R (i + 1) ++ W)) := fun i hi => by
    rw [pe, hR (i + 1) (by omega), hQ]; simp [es2]
  have ri : ∀ i, i < m → R i ++ W = enc (fv v i) ++ (R (i + 1) ++ W) := fun i hi => by
    have a := qi i hi
    rw [pe, hR i (by omega), hQ] at a
    simp only [List.append_assoc, List.append_cancel_left_eq] at a
    simpa using a
  have rm : R m = [] := by have := hR m (by omega); simpa using this.symm
  have sz : ∀ i, i ≤ m → (Q i).length + (R i ++ W).length ≤ 2 ^ 60 := fun i hi => by
    rw [pe, hR i hi] at hP
    rw [hQ]
    simp only [List.length_append] at *
    omega
  have k0 := n91 P l (es2 (fv v) m ++ W) f (many := 64) (top := 63) lp (by omega) (by omega) (by omega) (by omega) (fun x hx => by have := lm x hx; omega) (by rw [← hm, ← hH, ← List.append_assoc]; rw [pe] at hP; simp only [List.length_append] at *; omega) 1199 (by omega)
  rw [← hm, ← hH, ← q0, ← hes, ← hcall] at k0
  have n0 : (H ++ (es2 (fv v) m ++ W)).length = (putB v ++ W).length := by rw [pe]; simp
  have o0 : (P ++ H).length = O 0 := by rw [hO, hQ]; simp [es2]
  have nn0 : (es2 (fv v) m ++ W).length = N 0 := by rw [hN, hR 0 (by omega)]; simp [es2]
  rw [n0, o0, nn0] at k0
  have k1 : ∀ i, i < m → call 92 [rp, i64 1073741823] (rd es (O i) (N i) true) = some (i64 (G i), rd es (O (i + 1)) (N (i + 1)) true) := fun i hi => by
    have a := vg i hi
    have b := hG i
    have := n92 (Q i) (R (i + 1) ++ W) true (x := fv v i) (most := 1073741823) (by omega) (by omega) (by rw [← ri i hi]; exact sz i (by omega)) 1199 (by omega)
    have e1 : Q (i + 1) = Q i ++ enc (fv v i) := by rw [hQ, hQ]; simp [es2]
    rw [← qi i hi, ← hes, ← ri i hi, ← hN, ← hO, ← hG, ← hN, ← e1, ← hO, ← hcall] at this
    exact this
  have k2 : ∀ i, call 47 [rp] (rd es (O i) (N i) true) = some (i64 0, rd es (O i) (N i) true) := fun i => by
    have := n47 es (O i) (N i) true 1199 (by omega)
    rw [← hcall] at this; exact this
  have ne := neF hA (a := 0) (b := 0) rfl
  have inc : ∀ i, i < 64 → A .ar .add .i64 (I i) 1 = I (i + 1) := fun i hi => addR hA (by rw [hI, hI]; omega) (by rw [hI]; omega)
  have i0 : I 0 = 0 := hI 0
  have om := ofNR hA (x := M) (n := m) hM
  have g2 : ∀ i, i < m → A .at_ (I i) m = some i ∧ A .getN (ints l) i = some [.int .i64 (X i)] := fun i hi => by
    refine ⟨atR hA (hI i) hi, ?_⟩
    rw [hA, real_getN, ints, List.getElem?_map, List.getElem?_eq_getElem (by omega), hX, List.getD_eq_getElem?_getD, List.getElem?_eq_getElem (by omega)]
    rfl
  have g3 : ∀ i, i < m → (∃ k, A .at_ (X i) 64 = some k) ∧ A .setc (Y i) (X i) (.int .i64 (V i)) = some (Y (i + 1)) ∧ A .ar .add .i64 (G i) 1 = V i := fun i hi => by
    have a := vv i hi
    have b := vg i hi
    refine ⟨⟨l.getD i 0, atR hA (hX i) a.2⟩, ?_, addR hA (by omega) (by omega)⟩
    rw [hA, hX, hY, hY, setc_real (by omega) (by rw [part_len]; omega), Int.toNat_natCast, hV, part_set (by omega) a.2]
  have y0 : Y 0 = List.replicate 64 (.int .i64 0) := by rw [hY, part_0]; simp [vec]
  have ym : Y m = vec v := by rw [hY, hm, hl, part_all hv hg]
  have om2 : (P ++ putB v).length = O m := by rw [hO, hQ, pe]
  have nm : W.length = N m := by rw [hN, rm]; rfl
  dsimp only [vecF]
  rw [← hes, om2, nm, ← ym]
  have yy : Y 0 = [.int .i64 0, .int .i64 0, .int .i64 0, .int .i64 0, .int .i64 0, .int .i64 0, .int .i64 0, .int .i64 0, .int .i64 0, .int .i64 0, .int .i64 0, .int .i64 0, .int .i64 0, .int .i64 0, .int .i64 0, .int .i64 0, .int .i64 0, .int .i64 0, .int .i64 0, .int .i64 0, .int .i64 0, .int .i64 0, .int .i64 0, .int .i64 0, .int .i64 0, .int .i64 0, .int .i64 0, .int .i64 0, .int .i64 0, .int .i64 0, .int .i64 0, .int .i64 0, .int .i64 0, .int .i64 0, .int .i64 0, .int .i64 0, .int .i64 0, .int .i64 0, .int .i64 0, .int .i64 0, .int .i64 0, .int .i64 0, .int .i64 0, .int .i64 0, .int .i64 0, .int .i64 0, .int .i64 0, .int .i64 0, .int .i64 0, .int .i64 0, .int .i64 0, .int .i64 0, .int .i64 0, .int .i64 0, .int .i64 0, .int .i64 0, .int .i64 0, .int .i64 0, .int .i64 0, .int .i64 0, .int .i64 0, .int .i64 0, .int .i64 0, .int .i64 0] := y0
  clear hes hQ hR hO hN lp lm q0 qi ri rm sz n0 o0 nn0 om2 nm hP ym y0 pe hY hV hG hX vv fe hH
  generalize P.length = oP at *
  generalize (putB v ++ W).length = nP at *
  generalize hL : ints l = L at *
  apply wpV_seq; refine wpV_of (by ((conv => lhs; cbv); (try (with_reducible rfl)))) ?_
  apply wpV_seq; refine wpV_of (by ((conv => lhs; cbv); (try (with_reducible rfl)))) ?_
  apply wpV_seq; apply wpV_seq; refine wpV_of (by ((conv => lhs; cbv); (repeat ((first | rewrite [k0] | rewrite [om]); (try (conv => lhs; cbv)))); (try (with_reducible rfl)))) ?_
  apply wpV_block
  refine wpV_loop m (fun i st => st = ⟨2, [rp, u, .one (.ptr 2 0), .one (.ptr 3 0), u, u, u, .one (.slo 4 0 m), i64 M, i64 (I i), u, u, u, u, u, u, u, u, u, u, u, u, u, u], [.var false [.slo 1 (O i) (N i), .iv (.int .i64 0), .iv (.bool true)], .arr true false 1 es, .var false [.iv (.arr 64 (List.replicate 64 (.int .i64 0)))], .var false [.iv (.arr 64 (Y i))], .arr false false 1 L]⟩) (by omega) (by ((conv => lhs; cbv); (repeat ((first | rewrite [om]); (try (conv => lhs; cbv)))); (try (with_reducible rfl)))) (by rw [i0, yy, om]; rfl) ?_
  rintro i hi st rfl
  by_cases him : i < m
  · have c := ltT hA (a := I i) (b := M) (by rw [hI, hM]; omega)
    obtain ⟨p1, p2⟩ := g2 i him
    obtain ⟨⟨kk, p3⟩, p4, p5⟩ := g3 i him
    have k := k1 i him
    have ii := inc i (by omega)
    generalize I (i + 1) = J1 at *
    generalize I i = J at *
    generalize X i = XX at *
    generalize V i = VV at *
    generalize G i = GG at *
    generalize Y (i + 1) = Y1 at *
    generalize Y i = Y0 at *
    generalize N (i + 1) = N1 at *
    generalize N i = N0 at *
    generalize O (i + 1) = O1 at *
    generalize O i = O0 at *
    refine wpV_of (by ((conv => lhs; cbv); (repeat ((first | rewrite [c] | rewrite [p1] | rewrite [p2] | rewrite [k] | rewrite [p5] | rewrite [p3] | rewrite [p4]); (try (conv => lhs; cbv)))); (try (with_reducible rfl)))) ?_
    refine headQ_of (by ((conv => lhs; cbv); (try (with_reducible rfl)))) ?_
    exact ⟨him, (by ((repeat (first | rewrite [ii])); (try rfl)))⟩
  · obtain rfl : i = m := by omega
    have c := ltF hA (a := I i) (b := M) (by rw [hI, hM]; omega)
    have k' := k2 i
    generalize I i = J at *
    generalize Y i = Y0 at *
    generalize N i = N0 at *
    generalize O i = O0 at *
    refine wpV_of (by ((conv => lhs; cbv); (repeat ((first | rewrite [c]); (try (conv => lhs; cbv)))); (try (with_reducible rfl)))) ?_
    show wpV _ _ _ _ _ _
    apply wpV_seq; refine wpV_of (by ((conv => lhs; cbv); (repeat ((first | rewrite [k'] | rewrite [ne]); (try (conv => lhs; cbv)))); (try (with_reducible rfl)))) ?_
    refine wpV_of (by ((conv => lhs; cbv); (try (with_reducible rfl)))) ?_
    (show finV _ _ _ = some _; ((conv => lhs; cbv); (try (with_reducible rfl))); (try rfl))
end Go.Proofs.Ytomchclmnmhjaaa
