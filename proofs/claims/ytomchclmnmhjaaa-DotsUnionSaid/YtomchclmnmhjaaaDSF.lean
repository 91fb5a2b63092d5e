/- Any context's one form; whether it has any dot, and is a vector alone: the law of lists. -/
import Derived.Test.YtomchclmnmhjaaaDSE
set_option linter.unusedSimpArgs false
set_option linter.unusedVariables false
set_option maxRecDepth 100000
set_option maxHeartbeats 1000000
set_option cbv.maxSteps 10000000
namespace Go.Proofs.Ytomchclmnmhjaaa
open Go GoV

theorem eqLvec : ∀ {v w : List Int}, v.length = w.length → rEqL (List.replicate v.length .int) (vec v) (vec w) = some (decide (v = w))
  | [], [], _ => rfl
  | [], _ :: _, h => by simp at h
  | _ :: _, [], h => by simp at h
  | x :: r, y :: s, h => by
    have ih := eqLvec (v := r) (w := s) (by simpa using h)
    simp only [vec] at ih
    simp only [vec, List.length_cons, List.replicate_succ, List.map_cons, rEqL, rEqK, if_true, Option.bind_some, ih, List.cons.injEq]
    by_cases e : x = y <;> by_cases f : r = s <;> simp [e, f]
theorem vecPlain (v : List Int) : (vec v).all plainI = true := by
  simp [vec, plainI]
theorem flatVec {v : List Int} (h : v.length = 64) : flatI [.arr 64 (vec v)] = some (vec v) := by
  have hl : (vec v).length = 64 := by simpa [vec] using h
  rw [flatI, if_pos ⟨hl, vecPlain v⟩]
  simp [flatI]
theorem eqvVec {v w : List Int} (h : v.length = 64) (h' : w.length = 64) : real .eqv [.int, .int, .int, .int, .int, .int, .int, .int, .int, .int, .int, .int, .int, .int, .int, .int, .int, .int, .int, .int, .int, .int, .int, .int, .int, .int, .int, .int, .int, .int, .int, .int, .int, .int, .int, .int, .int, .int, .int, .int, .int, .int, .int, .int, .int, .int, .int, .int, .int, .int, .int, .int, .int, .int, .int, .int, .int, .int, .int, .int, .int, .int, .int, .int] [.arr 64 (vec v)] [.arr 64 (vec w)] = some (decide (v = w)) := by
  show rEqv _ _ _ = _
  rw [rEqv, flatVec h, flatVec h']
  simp only [Option.bind_some]
  have := eqLvec (v := v) (w := w) (by omega)
  rw [h] at this
  exact this
theorem tid_ref {v : List Int} (hv : v.length = 64) (l : List Dt) : tid v l = (refU v l, refC v l) := by
  have hL : ∀ d, d ∈ srtD (kept l) ↔ d ∈ l ∧ VD d := fun d => by
    rw [(srtD_perm (kept l)).mem_iff]
    unfold kept
    rw [List.mem_filter, validB_VD]
  have h1 := fin_prog (clampV_len hv) hL (srtD_srt (kept l))
  have h2 := fin_ref (clampV_len hv) l
  obtain ⟨a, b⟩ := fin_unique h1 h2
  exact Prod.ext a b
theorem q25 : ∃ k, Qn k 25 [] [] (bl true) [] := by
  have h : play real (lookT tab) prD 100 25 [] [] = some (bl true, []) := by kernel_rfl
  exact ⟨100, fun m hm => play_mono prD_mono hm _ _ _ _ h⟩
theorem stC_len (u : List Int) (c : List Dt) (d : Dt) : (stC u c d).length ≤ c.length + 1 := by
  unfold stC
  split
  · omega
  · simp only [List.length_append, List.length_take, List.length_drop, List.length_cons, List.length_nil]; omega
theorem foldC_len (u : List Int) : ∀ (l c : List Dt), (l.foldl (stC u) c).length ≤ c.length + l.length
  | [], c => by simp
  | d :: l, c => by
    have := foldC_len u l (stC u c d)
    have := stC_len u c d
    rw [List.foldl_cons, List.length_cons]
    omega
theorem h36 {uv : List Int} (hu : uv.length = 64) (q : List Dt) (t t2 : Bool) (hq : q.length ≤ 1000) : Qn 1102 36 [ctxF t uv q, ctxF t2 uv q] [] (bl true) [] := by
  refine playQ 1101 rfl rfl fun A call hA hcall => ?_
  obtain ⟨pl, mi, ml, nt, tn, ad, sb, K⟩ := kit hA
  obtain ⟨E, ix, sn, ll, cc, sg, D⟩ := lkit hA K ((0, 0) : Int × Int) (fun p => [.int .i64 p.1, .int .i64 p.2]) 16
  obtain ⟨W, gx, st', V⟩ := rkit hA
  have hE : eDs q = E q := by rw [D.E_]; rfl
  have eq := eqvVec hu hu
  rw [decide_eq_true rfl, ← hA] at eq
  dsimp only [ctxF]
  rw [hE]
  obtain ⟨M, hM⟩ : ∃ M : Int, M = nt (ll q) := ⟨_, rfl⟩
  have hMl : M = q.length := by rw [hM, K.nt_, D.ll_]
  have ln : A .len (E q) = M := by rw [D.len, hM]
  generalize vec uv = vs at *
  apply wpV_seq; refine wpV_ofH (by ((try (conv => lhs; cbv)); (exact rfl))) ?_
  apply wpV_seq; refine wpV_ofH (by ((try (conv => lhs; cbv)); (repeat ((first | (rewrite [eq]) | (rewrite [ln]) | (rewrite [K.neF]; rotate_left; focus ((try simp only [K.df, D.df, V.df, true_and, and_true]) <;> omega))); (try (conv => lhs; cbv)))); (exact rfl))) ?_
  apply wpV_seq; apply wpV_seq; refine wpV_ofH (by ((try (conv => lhs; cbv)); (repeat ((first | (rewrite [ln])); (try (conv => lhs; cbv)))); (exact rfl))) ?_
  apply wpV_block
  refine wpV_loop q.length (fun i st => ∃ J : Int, st = ⟨0, [u, u, u, .one (.ptr 0 0), u, u, u, u, u, u, u, u, u, u, u, u, u, u, u, u, u, u, .one (.iv (.sl t 2 (E q))), i64 M, i64 J, u, u, u, u, u, u, u, u, u, u, u, u], [.var false [.iv (.arr 64 vs), .iv (.sl t2 2 (E q))]]⟩ ∧ J = i) (by omega) (by ((try (conv => lhs; cbv)); (try (with_reducible rfl)))) ⟨0, rfl, rfl⟩ ?_
  rintro i hi st ⟨J, rfl, hJ⟩
  by_cases him : i < q.length
  · have g := D.get (l := q) (J := J) (by omega)
    generalize ix q J = x at *
    obtain ⟨r, n⟩ := x
    have eq2 := eqvT hA r n r n
    (conv at eq2 => lhs; arg 2; cbv)
    rw [decide_eq_true rfl] at eq2
    dsimp only at g
    refine wpV_ofH (by ((try (conv => lhs; cbv)); (repeat ((first | (rewrite [g]) | (rewrite [eq2]) | (rewrite [K.add]; rotate_left; focus ((try simp only [K.df, D.df, V.df, true_and, and_true]) <;> omega)) | (rewrite [K.ltT]; rotate_left; focus ((try simp only [K.df, D.df, V.df, true_and, and_true]) <;> omega))); (try (conv => lhs; cbv)))); (exact rfl))) ?_
    refine headQ_ofH (by ((try (conv => lhs; cbv)); (exact rfl))) ?_
    refine ⟨him, _, rfl, ?_⟩
    rw [K.pl_]; omega
  · obtain rfl : i = q.length := by omega
    refine wpV_ofH (by ((try (conv => lhs; cbv)); (repeat ((first | (rewrite [K.ltF]; rotate_left; focus ((try simp only [K.df, D.df, V.df, true_and, and_true]) <;> omega))); (try (conv => lhs; cbv)))); (exact rfl))) ?_
    show wpV _ _ _ _ _ _
    refine wpV_ofH (by ((try (conv => lhs; cbv)); (exact rfl))) ?_
    (show finV _ _ _ = some _; ((try (conv => lhs; cbv)); (try (with_reducible rfl))); (try rfl))
/-! ### Shapes -/
def iSh : Sh := .int .i64
def vecSh : Sh := .row 64 iSh
def dotSh : Sh := .pair iSh (.pair iSh .unit)
def ctxSh : Sh := .pair vecSh (.pair (.sl dotSh 16) .unit)
theorem ty_int {xs : List IV} (h : TyI iSh xs) : ∃ n, xs = [.int .i64 n] := by
  obtain ⟨n, h, _⟩ := h; exact ⟨n, h⟩
theorem ty_vec {xs : List IV} (h : TyI vecSh xs) : ∃ v : List Int, xs = [.arr 64 (vec v)] ∧ v.length = 64 := by
  obtain ⟨ys, rfl, hl, hy⟩ := h
  have : ∃ v : List Int, ys = vec v := by
    clear hl
    induction ys with
    | nil => exact ⟨[], rfl⟩
    | cons y r ih =>
      obtain ⟨n, hn⟩ := ty_int (hy y (by simp))
      obtain ⟨v, rfl⟩ := ih fun z hz => hy z (by simp [hz])
      simp only [List.cons.injEq, and_true] at hn
      subst hn
      exact ⟨n :: v, rfl⟩
  obtain ⟨v, rfl⟩ := this
  exact ⟨v, rfl, by simpa [vec] using hl⟩
theorem ty_dots : ∀ {es : List (List IV)}, (∀ c, c ∈ es → TyI dotSh c) → ∃ l : List (Int × Int), es = eDs l
  | [], _ => ⟨[], rfl⟩
  | c :: r, h => by
    obtain ⟨l, rfl⟩ := ty_dots (es := r) fun c hc => h c (by simp [hc])
    obtain ⟨a1, b1, rfl, ⟨x, rfl, _⟩, ⟨a2, b2, rfl, ⟨y, rfl, _⟩, rfl⟩⟩ := h c (by simp)
    exact ⟨(x, y) :: l, rfl⟩
theorem ty_ctx {c : List IV} (h : TyI ctxSh c) : ∃ (v : List Int) (l : List Dt), c = [.arr 64 (vec v), .sl false 2 (eDs l)] ∧ v.length = 64 := by
  obtain ⟨a1, b1, rfl, h1, ⟨a2, b2, rfl, ⟨es, rfl, _, he⟩, rfl⟩⟩ := h
  obtain ⟨v, rfl, hv⟩ := ty_vec h1
  obtain ⟨l, rfl⟩ := ty_dots he
  exact ⟨v, l, rfl, hv⟩
end Go.Proofs.Ytomchclmnmhjaaa
