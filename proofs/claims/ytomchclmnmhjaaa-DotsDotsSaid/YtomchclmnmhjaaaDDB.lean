/- Dots: the statement of all data. -/
import Derived.Test.YtomchclmnmhjaaaDDA
set_option linter.unusedSimpArgs false
set_option linter.unusedVariables false
set_option maxRecDepth 100000
namespace Go.Proofs.Ytomchclmnmhjaaa
open Go GoV

theorem eqL_refl : ∀ (v : List Int), rEqL (List.replicate v.length .int) (vec v) (vec v) = some true
  | [] => rfl
  | x :: r => by
    have ih := eqL_refl r
    simp only [vec] at ih
    simp [vec, List.replicate_succ, rEqL, rEqK, ih]
theorem vec_plain (v : List Int) : (vec v).all plainI = true := by
  simp [vec, plainI]
theorem flat_vec {v : List Int} (h : v.length = 64) : flatI [.arr 64 (vec v)] = some (vec v) := by
  have hl : (vec v).length = 64 := by simpa [vec] using h
  rw [flatI, if_pos ⟨hl, vec_plain v⟩]
  simp [flatI]
theorem eqv_vec {v : List Int} (h : v.length = 64) : real .eqv [.int, .int, .int, .int, .int, .int, .int, .int, .int, .int, .int, .int, .int, .int, .int, .int, .int, .int, .int, .int, .int, .int, .int, .int, .int, .int, .int, .int, .int, .int, .int, .int, .int, .int, .int, .int, .int, .int, .int, .int, .int, .int, .int, .int, .int, .int, .int, .int, .int, .int, .int, .int, .int, .int, .int, .int, .int, .int, .int, .int, .int, .int, .int, .int] [.arr 64 (vec v)] [.arr 64 (vec v)] = some true := by
  show rEqv _ _ _ = _
  rw [rEqv, flat_vec h]
  simp only [Option.bind_some]
  have := eqL_refl v
  rw [h] at this
  exact this
theorem cmpD_lt (a b c d : Int) : decide (cmpD a b c d < 0) = lessB a b c d := by
  unfold cmpD orI cmpI lessB
  by_cases h1 : a < c <;> by_cases h2 : a > c <;> by_cases h3 : b < d <;> by_cases h4 : b > d <;> simp [h1, h2, h3, h4] <;> omega
theorem cmpD_gt (a b c d : Int) : decide (cmpD a b c d > 0) = lessB c d a b := by
  unfold cmpD orI cmpI lessB
  by_cases h1 : a < c <;> by_cases h2 : a > c <;> by_cases h3 : b < d <;> by_cases h4 : b > d <;> simp [h1, h2, h3, h4] <;> omega
theorem cmpD_range (a b c d : Int) : cmpD a b c d ≥ -1 ∧ cmpD a b c d ≤ 1 := by
  unfold cmpD orI cmpI
  by_cases h1 : a < c <;> by_cases h2 : a > c <;> by_cases h3 : b < d <;> by_cases h4 : b > d <;> simp [h1, h2, h3, h4]
theorem withB_len (v : List Int) (r n : Int) : (withB v r n).length = v.length := by unfold withB; split <;> simp
theorem bq_real (t : Bool) : real .bq t t = true := by
  show (t == t) = true
  simp
theorem law3 (a b c d : Int) {v : List Int} (hv : v.length = 64) : Pl 3 [dotF a b, dotF c d, vecF v] (bl true) [] := by
  obtain ⟨n1, h1⟩ := (p17 a b c d).at pr_mono
  obtain ⟨n2, h2⟩ := (p18 a b).at pr_mono
  obtain ⟨n3, h3⟩ := (p19 a b).at pr_mono
  obtain ⟨n4, h4⟩ := (p20 a b c d).at pr_mono
  obtain ⟨n5, h5⟩ := (p20 c d a b).at pr_mono
  obtain ⟨n6, h6⟩ := (p21 hv a b).at pr_mono
  obtain ⟨n7, h7⟩ := (p22 hv a b).at pr_mono
  obtain ⟨n8, h8⟩ := (p23 hv a b).at pr_mono
  obtain ⟨n9, h9⟩ := (p24 hv a b).at pr_mono
  obtain ⟨n10, h10⟩ := p25.at pr_mono
  obtain ⟨N, hN⟩ : ∃ N, N = n1 + n2 + n3 + n4 + n5 + n6 + n7 + n8 + n9 + n10 := ⟨_, rfl⟩
  refine Plays.wp (vf := v3) rfl rfl ⟨N, fun A call hA hcall => ?_⟩
  subst hA; subst hcall
  exact w3 real _ _ a b c d (cmpD a b c d) (vec v) (vec (withB v a b)) (h1 N (by omega)) (h2 N (by omega)) (h3 N (by omega)) (h4 N (by omega)) (h5 N (by omega)) (by rw [lss_real]; exact cmpD_lt a b c d) (by rw [gtr_real]; exact cmpD_gt a b c d) bq_real
    (by rw [geq_real]; exact decide_eq_true (cmpD_range a b c d).1) (by rw [leq_real]; exact decide_eq_true (cmpD_range a b c d).2) (h6 N (by omega)) (h7 N (by omega)) (h8 N (by omega)) (h9 N (by omega)) (eqv_vec (by rw [withB_len, hv])) (h10 N (by omega))

/-! ### Shapes -/
def iSh : Sh := .int .i64
def dotSh : Sh := .pair iSh (.pair iSh .unit)
def vecSh : Sh := .row 64 iSh
theorem ty_int {xs : List IV} (h : TyI iSh xs) : ∃ n, xs = [.int .i64 n] := by
  obtain ⟨n, h, _⟩ := h; exact ⟨n, h⟩
theorem ty_dot {xs : List IV} (h : TyI dotSh xs) : ∃ a b, xs = [.int .i64 a, .int .i64 b] := by
  obtain ⟨a1, b1, rfl, ⟨r, rfl, _⟩, ⟨a2, b2, rfl, ⟨n, rfl, _⟩, rfl⟩⟩ := h
  exact ⟨r, n, rfl⟩
theorem ty_vec {xs : List IV} (h : TyI vecSh xs) : ∃ v : List Int, xs = [.arr 64 (vec v)] ∧ v.length = 64 := by
  obtain ⟨ys, rfl, hl, hy⟩ := h
  have : ∃ v : List Int, ys = vec v := by
    clear hl
    induction ys with
    | nil => exact ⟨[], rfl⟩
    | cons y r ih =>
      obtain ⟨n, hn⟩ := ty_int (hy y (by simp))
      obtain ⟨v, rfl⟩ := ih fun z hz => hy z (by simp [hz])
      simp only [List.cons.injEq, and_true] at hn
      subst hn
      exact ⟨n :: v, rfl⟩
  obtain ⟨v, rfl⟩ := this
  exact ⟨v, rfl, by simpa [vec] using hl⟩
theorem lawV : ∀ xss, TyA [dotSh, dotSh, vecSh] xss → ∃ n, play real (lookT tab) (fun _ => clonePr clones) n 3 (argsF [dotSh, dotSh, vecSh] xss) [] = some (.one (.iv (.bool true)), []) := by
  intro xss h
  rcases xss with _ | ⟨a, _ | ⟨b, _ | ⟨c, _ | ⟨d, r⟩⟩⟩⟩
  · exact h.elim
  · exact h.2.elim
  · exact h.2.2.elim
  · obtain ⟨h1, h2, h3, _⟩ := h
    obtain ⟨x, y, rfl⟩ := ty_dot h1
    obtain ⟨x2, y2, rfl⟩ := ty_dot h2
    obtain ⟨V, rfl, hV⟩ := ty_vec h3
    exact law3 x y x2 y2 hV
  · exact h.2.2.2.elim
end Go.Proofs.Ytomchclmnmhjaaa
