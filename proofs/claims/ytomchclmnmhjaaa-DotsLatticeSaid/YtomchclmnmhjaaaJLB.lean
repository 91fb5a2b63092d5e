/- Vectors as one hang neither on order nor on how often. -/
import Derived.Test.YtomchclmnmhjaaaJVA
set_option linter.unusedSimpArgs false
set_option linter.unusedVariables false
set_option maxRecDepth 100000
set_option maxHeartbeats 1000000
namespace Go.Proofs.Ytomchclmnmhjaaa
open Go GoV

theorem w4 (A : Ar) (call : CallT) (it : IterT) (a b c j1 j j2 j3 j4 m x : List IV)
    (k1 : call 26 [.agg [.iv (.arr 64 a)], .agg [.iv (.arr 64 b)]] [] = some (.agg [.iv (.arr 64 j1)], [])) (k2 : call 26 [.agg [.iv (.arr 64 j1)], .agg [.iv (.arr 64 c)]] [] = some (.agg [.iv (.arr 64 j)], []))
    (k3 : call 27 [.agg [.iv (.arr 64 a)], .agg [.iv (.arr 64 b)]] [] = some (.agg [.iv (.arr 64 m)], []))
    (k4 : call 26 [.agg [.iv (.arr 64 b)], .agg [.iv (.arr 64 a)]] [] = some (.agg [.iv (.arr 64 j2)], [])) (k5 : call 26 [.agg [.iv (.arr 64 c)], .agg [.iv (.arr 64 j2)]] [] = some (.agg [.iv (.arr 64 j3)], [])) (e1 : A .eqv [.int, .int, .int, .int, .int, .int, .int, .int, .int, .int, .int, .int, .int, .int, .int, .int, .int, .int, .int, .int, .int, .int, .int, .int, .int, .int, .int, .int, .int, .int, .int, .int, .int, .int, .int, .int, .int, .int, .int, .int, .int, .int, .int, .int, .int, .int, .int, .int, .int, .int, .int, .int, .int, .int, .int, .int, .int, .int, .int, .int, .int, .int, .int, .int] [.arr 64 j] [.arr 64 j3] = some true)
    (k6 : call 26 [.agg [.iv (.arr 64 j)], .agg [.iv (.arr 64 b)]] [] = some (.agg [.iv (.arr 64 j4)], [])) (e2 : A .eqv [.int, .int, .int, .int, .int, .int, .int, .int, .int, .int, .int, .int, .int, .int, .int, .int, .int, .int, .int, .int, .int, .int, .int, .int, .int, .int, .int, .int, .int, .int, .int, .int, .int, .int, .int, .int, .int, .int, .int, .int, .int, .int, .int, .int, .int, .int, .int, .int, .int, .int, .int, .int, .int, .int, .int, .int, .int, .int, .int, .int, .int, .int, .int, .int] [.arr 64 j4] [.arr 64 j] = some true)
    (k7 : call 28 [.agg [.iv (.arr 64 a)], .agg [.iv (.arr 64 j)]] [] = some (bl true, [])) (k8 : call 28 [.agg [.iv (.arr 64 m)], .agg [.iv (.arr 64 a)]] [] = some (bl true, [])) (k9 : call 28 [.agg [.iv (.arr 64 m)], .agg [.iv (.arr 64 b)]] [] = some (bl true, []))
    (k10 : call 26 [.agg [.iv (.arr 64 m)], .agg [.iv (.arr 64 a)]] [] = some (.agg [.iv (.arr 64 x)], [])) (e3 : A .eqv [.int, .int, .int, .int, .int, .int, .int, .int, .int, .int, .int, .int, .int, .int, .int, .int, .int, .int, .int, .int, .int, .int, .int, .int, .int, .int, .int, .int, .int, .int, .int, .int, .int, .int, .int, .int, .int, .int, .int, .int, .int, .int, .int, .int, .int, .int, .int, .int, .int, .int, .int, .int, .int, .int, .int, .int, .int, .int, .int, .int, .int, .int, .int, .int] [.arr 64 x] [.arr 64 a] = some true) (k25 : call 25 [] [] = some (bl true, [])) :
    wpV A call it v4.body ⟨0, padE 56 [.agg [.iv (.arr 64 a)], .agg [.iv (.arr 64 b)], .agg [.iv (.arr 64 c)]], []⟩ (finQ A v4 (bl true, [])) := by
  apply wpV_seq; refine wpV_of (by ((conv => lhs; cbv); (try (with_reducible rfl)))) ?_
  apply wpV_seq; refine wpV_of (by ((conv => lhs; cbv); (repeat ((first | rewrite [k1] | rewrite [k2]); (try (conv => lhs; cbv)))); (try (with_reducible rfl)))) ?_
  apply wpV_seq; refine wpV_of (by ((conv => lhs; cbv); (repeat ((first | rewrite [k3]); (try (conv => lhs; cbv)))); (try (with_reducible rfl)))) ?_
  refine wpV_of (by ((conv => lhs; cbv); (repeat ((first | rewrite [k4] | rewrite [k5] | rewrite [e1] | rewrite [k6] | rewrite [e2] | rewrite [k7] | rewrite [k8] | rewrite [k9] | rewrite [k10] | rewrite [e3] | rewrite [k25]); (try (conv => lhs; cbv)))); (try (with_reducible rfl)))) ?_
  (show finV _ _ _ = some _; ((conv => lhs; cbv); (try (with_reducible rfl))); (try rfl))
theorem zip_get (op : Int → Int → Int) (a b : List Int) {i : Nat} (h : i < 64) : (zipI op a b).getD i 0 = op (a.getD i 0) (b.getD i 0) := by
  simp [zipI, h]
theorem zip_ext {op op' : Int → Int → Int} {a b a' b' : List Int} (h : ∀ i, i < 64 → op (a.getD i 0) (b.getD i 0) = op' (a'.getD i 0) (b'.getD i 0)) : zipI op a b = zipI op' a' b' :=
  List.map_congr_left fun i hi => h i (List.mem_range.1 hi)
theorem zip_self {op : Int → Int → Int} {a b v : List Int} (hv : v.length = 64) (h : ∀ i, i < 64 → op (a.getD i 0) (b.getD i 0) = v.getD i 0) : zipI op a b = v := by
  apply List.ext_getElem
  · rw [zip_len, hv]
  · intro i h1 h2
    have := h i (by rw [hv] at h2; exact h2)
    simp only [zipI, List.getElem_map, List.getElem_range]
    rw [this]; simp [h2]
theorem law4 {a b c : List Int} (ha : a.length = 64) (hb : b.length = 64) (hc : c.length = 64) : Pl 4 [vecF a, vecF b, vecF c] (bl true) [] := by
  have l1 := zip_len max a b
  have lj := zip_len max (joinI a b) c
  have lm := zip_len min a b
  have l2 := zip_len max b a
  obtain ⟨n1, h1⟩ := (p26 ha hb).at pr_mono
  obtain ⟨n2, h2⟩ := (p26 l1 hc).at pr_mono
  obtain ⟨n3, h3⟩ := (p27 ha hb).at pr_mono
  obtain ⟨n4, h4⟩ := (p26 hb ha).at pr_mono
  obtain ⟨n5, h5⟩ := (p26 hc l2).at pr_mono
  obtain ⟨n6, h6⟩ := (p26 lj hb).at pr_mono
  obtain ⟨n7, h7⟩ := (p28 ha lj).at pr_mono
  obtain ⟨n8, h8⟩ := (p28 lm ha).at pr_mono
  obtain ⟨n9, h9⟩ := (p28 lm hb).at pr_mono
  obtain ⟨n10, h10⟩ := (p26 lm ha).at pr_mono
  obtain ⟨n11, h11⟩ := p25.at pr_mono
  have q1 : joinI (joinI a b) c = joinI c (joinI b a) := zip_ext fun i hi => by rw [zip_get _ _ _ hi, zip_get _ _ _ hi]; omega
  have q2 : joinI (joinI (joinI a b) c) b = joinI (joinI a b) c := zip_self lj fun i hi => by rw [zip_get _ _ _ hi, zip_get _ _ _ hi]; omega
  have q3 : joinI a (joinI (joinI a b) c) = joinI (joinI a b) c := zip_self lj fun i hi => by rw [zip_get _ _ _ hi, zip_get _ _ _ hi]; omega
  have q4 : joinI (meetI a b) a = a := zip_self ha fun i hi => by rw [zip_get _ _ _ hi]; omega
  have q5 : joinI (meetI a b) b = b := zip_self hb fun i hi => by rw [zip_get _ _ _ hi]; omega
  rw [decide_eq_true q3] at h7
  rw [decide_eq_true q4] at h8
  rw [decide_eq_true q5] at h9
  obtain ⟨N, hN⟩ : ∃ N, N = n1 + n2 + n3 + n4 + n5 + n6 + n7 + n8 + n9 + n10 + n11 := ⟨_, rfl⟩
  refine Plays.wp (vf := v4) rfl rfl ⟨N, fun A call hA hcall => ?_⟩
  subst hA; subst hcall
  exact w4 real _ _ (vec a) (vec b) (vec c) (vec (joinI a b)) (vec (joinI (joinI a b) c)) (vec (joinI b a)) (vec (joinI c (joinI b a))) (vec (joinI (joinI (joinI a b) c) b)) (vec (meetI a b)) (vec (joinI (meetI a b) a))
    (h1 N (by omega)) (h2 N (by omega)) (h3 N (by omega)) (h4 N (by omega)) (h5 N (by omega)) (by rw [eqv_vec lj (zip_len _ _ _), decide_eq_true q1]) (h6 N (by omega)) (by rw [eqv_vec (zip_len _ _ _) lj, decide_eq_true q2])
    (h7 N (by omega)) (h8 N (by omega)) (h9 N (by omega)) (h10 N (by omega)) (by rw [eqv_vec (zip_len _ _ _) ha, decide_eq_true q4]) (h11 N (by omega))

/-! ### Shapes -/
def iSh : Sh := .int .i64
def vecSh : Sh := .row 64 iSh
theorem ty_int {xs : List IV} (h : TyI iSh xs) : ∃ n, xs = [.int .i64 n] := by
  obtain ⟨n, h, _⟩ := h; exact ⟨n, h⟩
theorem ty_vec {xs : List IV} (h : TyI vecSh xs) : ∃ v : List Int, xs = [.arr 64 (vec v)] ∧ v.length = 64 := by
  obtain ⟨ys, rfl, hl, hy⟩ := h
  have : ∃ v : List Int, ys = vec v := by
    clear hl
    induction ys with
    | nil => exact ⟨[], rfl⟩
    | cons y r ih =>
      obtain ⟨n, hn⟩ := ty_int (hy y (by simp))
      obtain ⟨v, rfl⟩ := ih fun z hz => hy z (by simp [hz])
      simp only [List.cons.injEq, and_true] at hn
      subst hn
      exact ⟨n :: v, rfl⟩
  obtain ⟨v, rfl⟩ := this
  exact ⟨v, rfl, by simpa [vec] using hl⟩
theorem lawV : ∀ xss, TyA [vecSh, vecSh, vecSh] xss → ∃ n, play real (lookT tab) (fun _ => clonePr clones) n 4 (argsF [vecSh, vecSh, vecSh] xss) [] = some (.one (.iv (.bool true)), []) := by
  intro xss h
  rcases xss with _ | ⟨a, _ | ⟨b, _ | ⟨c, _ | ⟨d, r⟩⟩⟩⟩
  · exact h.elim
  · exact h.2.elim
  · exact h.2.2.elim
  · obtain ⟨h1, h2, h3, _⟩ := h
    obtain ⟨x, rfl, hx⟩ := ty_vec h1
    obtain ⟨y, rfl, hy⟩ := ty_vec h2
    obtain ⟨z, rfl, hz⟩ := ty_vec h3
    exact law4 hx hy hz
  · exact h.2.2.2.elim
end Go.Proofs.Ytomchclmnmhjaaa
