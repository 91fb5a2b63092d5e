/- Any two vectors as one, what both have, and whether one has the other one's. -/
import Derived.Test.YtomchclmnmhjaaaDVA
set_option linter.unusedSimpArgs false
set_option linter.unusedVariables false
set_option maxRecDepth 100000
set_option maxHeartbeats 1000000
namespace Go.Proofs.Ytomchclmnmhjaaa
open Go GoV

theorem w5 (A : Ar) (call : CallT) (it : IterT) (a b j m : List IV) {t g : Bool}
    (k1 : call 26 [.agg [.iv (.arr 64 a)], .agg [.iv (.arr 64 b)]] [] = some (.agg [.iv (.arr 64 j)], [])) (k2 : call 29 [.agg [.iv (.arr 64 a)], .agg [.iv (.arr 64 b)]] [] = some (.agg [.iv (.arr 64 j)], [])) (e1 : A .eqv [.int, .int, .int, .int, .int, .int, .int, .int, .int, .int, .int, .int, .int, .int, .int, .int, .int, .int, .int, .int, .int, .int, .int, .int, .int, .int, .int, .int, .int, .int, .int, .int, .int, .int, .int, .int, .int, .int, .int, .int, .int, .int, .int, .int, .int, .int, .int, .int, .int, .int, .int, .int, .int, .int, .int, .int, .int, .int, .int, .int, .int, .int, .int, .int] [.arr 64 j] [.arr 64 j] = some true)
    (k3 : call 27 [.agg [.iv (.arr 64 a)], .agg [.iv (.arr 64 b)]] [] = some (.agg [.iv (.arr 64 m)], [])) (k4 : call 30 [.agg [.iv (.arr 64 a)], .agg [.iv (.arr 64 b)]] [] = some (.agg [.iv (.arr 64 m)], [])) (e2 : A .eqv [.int, .int, .int, .int, .int, .int, .int, .int, .int, .int, .int, .int, .int, .int, .int, .int, .int, .int, .int, .int, .int, .int, .int, .int, .int, .int, .int, .int, .int, .int, .int, .int, .int, .int, .int, .int, .int, .int, .int, .int, .int, .int, .int, .int, .int, .int, .int, .int, .int, .int, .int, .int, .int, .int, .int, .int, .int, .int, .int, .int, .int, .int, .int, .int] [.arr 64 m] [.arr 64 m] = some true)
    (k5 : call 28 [.agg [.iv (.arr 64 a)], .agg [.iv (.arr 64 b)]] [] = some (bl t, [])) (k6 : call 31 [.agg [.iv (.arr 64 a)], .agg [.iv (.arr 64 b)]] [] = some (bl t, [])) (k7 : call 32 [.agg [.iv (.arr 64 a)]] [] = some (bl g, [])) (k8 : call 33 [.agg [.iv (.arr 64 a)]] [] = some (bl g, []))
    (q : ∀ t, A .bq t t = true) (k25 : call 25 [] [] = some (bl true, [])) :
    wpV A call it v5.body ⟨0, padE 42 [.agg [.iv (.arr 64 a)], .agg [.iv (.arr 64 b)]], []⟩ (finQ A v5 (bl true, [])) := by
  apply wpV_seq; refine wpV_of (by ((conv => lhs; cbv); (try (with_reducible rfl)))) ?_
  apply wpV_seq; refine wpV_of (by ((conv => lhs; cbv); (repeat ((first | rewrite [k1] | rewrite [k2] | rewrite [e1] | rewrite [k3] | rewrite [k4] | rewrite [e2]); (try (conv => lhs; cbv)))); (try (with_reducible rfl)))) ?_
  refine wpV_of (by ((conv => lhs; cbv); (repeat ((first | rewrite [k5] | rewrite [k6] | rewrite [q t] | rewrite [k7] | rewrite [k8] | rewrite [q g] | rewrite [k25]); (try (conv => lhs; cbv)))); (try (with_reducible rfl)))) ?_
  (show finV _ _ _ = some _; ((conv => lhs; cbv); (try (with_reducible rfl))); (try rfl))
theorem zip_self {op : Int → Int → Int} {a b v : List Int} (hv : v.length = 64) (h : ∀ i, i < 64 → op (a.getD i 0) (b.getD i 0) = v.getD i 0) : zipI op a b = v := by
  apply List.ext_getElem
  · rw [zip_len, hv]
  · intro i h1 h2
    have := h i (by rw [hv] at h2; exact h2)
    simp only [zipI, List.getElem_map, List.getElem_range]
    rw [this]; simp [h2]
theorem zip_get (op : Int → Int → Int) (a b : List Int) {i : Nat} (h : i < 64) : (zipI op a b).getD i 0 = op (a.getD i 0) (b.getD i 0) := by
  simp [zipI, h]
theorem within_eq {a b : List Int} (hb : b.length = 64) : decide (joinI a b = b) = withinB a b := by
  by_cases h : joinI a b = b
  · rw [decide_eq_true h]
    symm
    apply all_t
    intro i hi
    have := zip_get max a b hi
    rw [show zipI max a b = b from h] at this
    exact decide_eq_false (by omega)
  · rw [decide_eq_false h]
    symm
    have : ∃ i, i < 64 ∧ a.getD i 0 > b.getD i 0 := by
      apply Classical.byContradiction
      intro hc
      refine h (zip_self hb fun i hi => ?_)
      have : ¬ a.getD i 0 > b.getD i 0 := fun hg => hc ⟨i, hi, hg⟩
      omega
    obtain ⟨i, hi, hg⟩ := this
    exact all_f (g := fun i => decide (a.getD i 0 > b.getD i 0)) hi (decide_eq_true hg)
theorem bq_real (t : Bool) : real .bq t t = true := by
  show (t == t) = true
  simp
theorem law5 {a b : List Int} (ha : a.length = 64) (hb : b.length = 64) : Pl 5 [vecF a, vecF b] (bl true) [] := by
  obtain ⟨n1, h1⟩ := (p26 ha hb).at pr_mono
  obtain ⟨n2, h2⟩ := (p29 ha hb).at pr_mono
  obtain ⟨n3, h3⟩ := (p27 ha hb).at pr_mono
  obtain ⟨n4, h4⟩ := (p30 ha hb).at pr_mono
  obtain ⟨n5, h5⟩ := (p28 ha hb).at pr_mono
  obtain ⟨n6, h6⟩ := (p31 ha hb).at pr_mono
  obtain ⟨n7, h7⟩ := (p32 ha).at pr_mono
  obtain ⟨n8, h8⟩ := (p33 ha).at pr_mono
  obtain ⟨n9, h9⟩ := p25.at pr_mono
  rw [within_eq hb] at h5
  obtain ⟨N, hN⟩ : ∃ N, N = n1 + n2 + n3 + n4 + n5 + n6 + n7 + n8 + n9 := ⟨_, rfl⟩
  refine Plays.wp (vf := v5) rfl rfl ⟨N, fun A call hA hcall => ?_⟩
  subst hA; subst hcall
  exact w5 real _ _ (vec a) (vec b) (vec (joinI a b)) (vec (meetI a b)) (h1 N (by omega)) (h2 N (by omega)) (by rw [eqv_vec (zip_len _ _ _) (zip_len _ _ _)]; simp) (h3 N (by omega)) (h4 N (by omega)) (by rw [eqv_vec (zip_len _ _ _) (zip_len _ _ _)]; simp)
    (h5 N (by omega)) (h6 N (by omega)) (h7 N (by omega)) (h8 N (by omega)) bq_real (h9 N (by omega))

/-! ### Shapes -/
def iSh : Sh := .int .i64
def vecSh : Sh := .row 64 iSh
theorem ty_int {xs : List IV} (h : TyI iSh xs) : ∃ n, xs = [.int .i64 n] := by
  obtain ⟨n, h, _⟩ := h; exact ⟨n, h⟩
theorem ty_vec {xs : List IV} (h : TyI vecSh xs) : ∃ v : List Int, xs = [.arr 64 (vec v)] ∧ v.length = 64 := by
  obtain ⟨ys, rfl, hl, hy⟩ := h
  have : ∃ v : List Int, ys = vec v := by
    clear hl
    induction ys with
    | nil => exact ⟨[], rfl⟩
    | cons y r ih =>
      obtain ⟨n, hn⟩ := ty_int (hy y (by simp))
      obtain ⟨v, rfl⟩ := ih fun z hz => hy z (by simp [hz])
      simp only [List.cons.injEq, and_true] at hn
      subst hn
      exact ⟨n :: v, rfl⟩
  obtain ⟨v, rfl⟩ := this
  exact ⟨v, rfl, by simpa [vec] using hl⟩
theorem lawV : ∀ xss, TyA [vecSh, vecSh] xss → ∃ n, play real (lookT tab) (fun _ => clonePr clones) n 5 (argsF [vecSh, vecSh] xss) [] = some (.one (.iv (.bool true)), []) := by
  intro xss h
  rcases xss with _ | ⟨a, _ | ⟨b, _ | ⟨c, r⟩⟩⟩
  · exact h.elim
  · exact h.2.elim
  · obtain ⟨h1, h2, _⟩ := h
    obtain ⟨x, rfl, hx⟩ := ty_vec h1
    obtain ⟨y, rfl, hy⟩ := ty_vec h2
    exact law5 hx hy
  · exact h.2.2.elim
end Go.Proofs.Ytomchclmnmhjaaa
