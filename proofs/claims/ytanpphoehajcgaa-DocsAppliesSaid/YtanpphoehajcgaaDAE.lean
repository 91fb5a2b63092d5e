/- A state that can be is read as it was written: the law of lists. -/
import Derived.Test.YtanpphoehajcgaaDAB
import Derived.Test.YtanpphoehajcgaaCGL
set_option linter.unusedSimpArgs false
set_option linter.unusedVariables false
set_option maxRecDepth 100000
set_option maxHeartbeats 1000000
set_option cbv.maxSteps 10000000
namespace Go.Proofs.Ytanpphoehajcgaa
open Go GoV

theorem eqL_vec : ∀ {v w : List Int}, v.length = w.length → rEqL (List.replicate v.length .int) (vec v) (vec w) = some (decide (v = w))
  | [], [], _ => rfl
  | [], _ :: _, h => by simp at h
  | _ :: _, [], h => by simp at h
  | x :: r, y :: s, h => by
    have ih := eqL_vec (v := r) (w := s) (by simpa using h)
    simp only [vec] at ih
    simp only [vec, List.length_cons, List.replicate_succ, List.map_cons, rEqL, rEqK, if_true, Option.bind_some, ih, List.cons.injEq]
    by_cases e : x = y <;> by_cases f : r = s <;> simp [e, f]
theorem vec_plain (v : List Int) : (vec v).all plainI = true := by
  simp [vec, plainI]
theorem flat_vec {v : List Int} (h : v.length = 64) : flatI [.arr 64 (vec v)] = some (vec v) := by
  have hl : (vec v).length = 64 := by simpa [vec] using h
  rw [flatI, if_pos ⟨hl, vec_plain v⟩]
  simp [flatI]
theorem eqv_vec {v w : List Int} (h : v.length = 64) (h' : w.length = 64) : real .eqv [.int, .int, .int, .int, .int, .int, .int, .int, .int, .int, .int, .int, .int, .int, .int, .int, .int, .int, .int, .int, .int, .int, .int, .int, .int, .int, .int, .int, .int, .int, .int, .int, .int, .int, .int, .int, .int, .int, .int, .int, .int, .int, .int, .int, .int, .int, .int, .int, .int, .int, .int, .int, .int, .int, .int, .int, .int, .int, .int, .int, .int, .int, .int, .int] [.arr 64 (vec v)] [.arr 64 (vec w)] = some (decide (v = w)) := by
  show rEqv _ _ _ = _
  rw [rEqv, flat_vec h, flat_vec h']
  simp only [Option.bind_some]
  have := eqL_vec (v := v) (w := w) (by omega)
  rw [h] at this
  exact this
theorem bq_refl (s : ByteArray) : (s == s) = true := by
  rcases s with ⟨a⟩; show (a == a) = true; simp
theorem neqW {A : Ar} (hA : A = real) (r n t : Int) (doc : ByteArray) (f : Int) (txt : ByteArray) : A .eqv (([.int] ++ [.int]) ++ [.int] ++ [.str] ++ [.int] ++ [.str]) [.int .i64 r, .int .i64 n, .int .i64 t, .str doc, .int .i64 f, .str txt] [.int .i64 r, .int .i64 n, .int .i64 t, .str doc, .int .i64 f, .str txt] = some true := by
  rw [hA, real_eqv]
  unfold rEqv
  simp [flatI, rEqL, rEqK]
  exact ⟨bq_refl _, bq_refl _⟩
/-! ### Shapes -/
def iSh : Sh := .int .i64
def vecSh : Sh := .row 64 iSh
def dotSh : Sh := .pair iSh (.pair iSh .unit)
def wrSh : Sh := .pair dotSh (.pair iSh (.pair .str (.pair iSh (.pair .str .unit))))
def stateSh : Sh := .pair vecSh (.pair (.sl wrSh 64) .unit)
theorem ty_int {xs : List IV} (h : TyI iSh xs) : ∃ n, xs = [.int .i64 n] := by
  obtain ⟨n, h, _⟩ := h; exact ⟨n, h⟩
theorem ty_vec {xs : List IV} (h : TyI vecSh xs) : ∃ v : List Int, xs = [.arr 64 (vec v)] ∧ v.length = 64 := by
  obtain ⟨ys, rfl, hl, hy⟩ := h
  have : ∃ v : List Int, ys = vec v := by
    clear hl
    induction ys with
    | nil => exact ⟨[], rfl⟩
    | cons y r ih =>
      obtain ⟨n, hn⟩ := ty_int (hy y (by simp))
      obtain ⟨v, rfl⟩ := ih fun z hz => hy z (by simp [hz])
      simp only [List.cons.injEq, and_true] at hn
      subst hn
      exact ⟨n :: v, rfl⟩
  obtain ⟨v, rfl⟩ := this
  exact ⟨v, rfl, by simpa [vec] using hl⟩
theorem ty_wr {c : List IV} (h : TyI wrSh c) : ∃ w : Wr, c = wI w ∧ w.doc.size ≤ 1000000000000000 := by
  obtain ⟨y1, z1, rfl, ⟨a1, b1, rfl, ⟨r, rfl, _⟩, ⟨a2, b2, rfl, ⟨n, rfl, _⟩, rfl⟩⟩, ⟨y2, z2, rfl, ⟨t, rfl, _⟩, ⟨y4, z4, rfl, ⟨d, rfl, hds⟩, ⟨y5, z5, rfl, ⟨f, rfl, _⟩, ⟨y6, z6, rfl, ⟨x, rfl, _⟩, rfl⟩⟩⟩⟩⟩ := h
  exact ⟨⟨(r, n), t, d, f, x⟩, rfl, by unfold reachBytes at hds; dsimp only; omega⟩
theorem ty_wrs : ∀ {es : List (List IV)}, (∀ c, c ∈ es → TyI wrSh c) → ∃ l : List Wr, es = eWs l ∧ ∀ w, w ∈ l → w.doc.size ≤ 1000000000000000
  | [], _ => ⟨[], rfl, fun w h => by simp at h⟩
  | c :: r, h => by
    obtain ⟨l, rfl, h2⟩ := ty_wrs (es := r) fun c hc => h c (by simp [hc])
    obtain ⟨w, rfl, hw⟩ := ty_wr (h c (by simp))
    refine ⟨w :: l, rfl, fun x hx => ?_⟩
    rcases List.mem_cons.1 hx with rfl | hx
    · exact hw
    · exact h2 x hx
theorem ty_state {c : List IV} (h : TyI stateSh c) : ∃ (v : List Int) (l : List Wr), c = [.arr 64 (vec v), .sl false 6 (eWs l)] ∧ v.length = 64 ∧ ∀ w, w ∈ l → w.doc.size ≤ 1000000000000000 := by
  obtain ⟨a1, b1, rfl, h1, ⟨a2, b2, rfl, ⟨es, rfl, _, he⟩, rfl⟩⟩ := h
  obtain ⟨v, rfl, hv⟩ := ty_vec h1
  obtain ⟨l, rfl, hl⟩ := ty_wrs he
  exact ⟨v, l, rfl, hv, hl⟩
end Go.Proofs.Ytanpphoehajcgaa
