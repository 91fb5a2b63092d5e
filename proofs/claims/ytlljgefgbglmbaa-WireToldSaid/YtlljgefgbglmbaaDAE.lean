/- A state that can be is read as it was written: the law of lists. -/
import Derived.Test.YtlljgefgbglmbaaDAD
set_option linter.unusedSimpArgs false
set_option linter.unusedVariables false
set_option maxRecDepth 100000
set_option maxHeartbeats 1000000
set_option cbv.maxSteps 10000000
namespace Go.Proofs.Ytlljgefgbglmbaa
open Go GoV

theorem eqL_vec : ∀ {v w : List Int}, v.length = w.length → rEqL (List.replicate v.length .int) (vec v) (vec w) = some (decide (v = w))
  | [], [], _ => rfl
  | [], _ :: _, h => by simp at h
  | _ :: _, [], h => by simp at h
  | x :: r, y :: s, h => by
    have ih := eqL_vec (v := r) (w := s) (by simpa using h)
    simp only [vec] at ih
    simp only [vec, List.length_cons, List.replicate_succ, List.map_cons, rEqL, rEqK, if_true, Option.bind_some, ih, List.cons.injEq]
    by_cases e : x = y <;> by_cases f : r = s <;> simp [e, f]
theorem vec_plain (v : List Int) : (vec v).all plainI = true := by
  simp [vec, plainI]
theorem flat_vec {v : List Int} (h : v.length = 64) : flatI [.arr 64 (vec v)] = some (vec v) := by
  have hl : (vec v).length = 64 := by simpa [vec] using h
  rw [flatI, if_pos ⟨hl, vec_plain v⟩]
  simp [flatI]
theorem eqv_vec {v w : List Int} (h : v.length = 64) (h' : w.length = 64) : real .eqv [.int, .int, .int, .int, .int, .int, .int, .int, .int, .int, .int, .int, .int, .int, .int, .int, .int, .int, .int, .int, .int, .int, .int, .int, .int, .int, .int, .int, .int, .int, .int, .int, .int, .int, .int, .int, .int, .int, .int, .int, .int, .int, .int, .int, .int, .int, .int, .int, .int, .int, .int, .int, .int, .int, .int, .int, .int, .int, .int, .int, .int, .int, .int, .int] [.arr 64 (vec v)] [.arr 64 (vec w)] = some (decide (v = w)) := by
  show rEqv _ _ _ = _
  rw [rEqv, flat_vec h, flat_vec h']
  simp only [Option.bind_some]
  have := eqL_vec (v := v) (w := w) (by omega)
  rw [h] at this
  exact this
theorem bq_refl (s : ByteArray) : (s == s) = true := by
  rcases s with ⟨a⟩; show (a == a) = true; simp
theorem neqW {A : Ar} (hA : A = real) (r n t : Int) (doc : ByteArray) (f : Int) (txt : ByteArray) : A .eqv (([.int] ++ [.int]) ++ [.int] ++ [.str] ++ [.int] ++ [.str]) [.int .i64 r, .int .i64 n, .int .i64 t, .str doc, .int .i64 f, .str txt] [.int .i64 r, .int .i64 n, .int .i64 t, .str doc, .int .i64 f, .str txt] = some true := by
  rw [hA, real_eqv]
  unfold rEqv
  simp [flatI, rEqL, rEqK]
  exact ⟨bq_refl _, bq_refl _⟩
theorem n83 (l : List Wr) (t t2 : Bool) (z z2 : Nat) (hz : z = 6 ∨ z = 0 ∧ l = []) (hz2 : z2 = 6 ∨ z2 = 0 ∧ l = []) (hl : l.length ≤ 5000) :
    Pn 6002 83 [.one (.iv (.sl t z (eWs l))), .one (.iv (.sl t2 z2 (eWs l)))] [] (bl true) [] := by
  refine playN 6001 rfl rfl fun A call hA hcall => ?_
  obtain ⟨pl, mi, ml, nt, tn, ad, sb, K⟩ := kit hA
  obtain ⟨EX, ix, sn, ll, cc, sg, X⟩ := lkit hA K zeroWr (fun w => [.int .i64 w.d.1, .int .i64 w.d.2, .int .i64 w.t, .str w.doc, .int .i64 w.f, .str w.txt]) 64
  obtain ⟨W, gx, st', V⟩ := rkit hA
  obtain ⟨zs, hzs⟩ : ∃ zs : ByteArray → Nat, ∀ s, zs s = s.size := ⟨_, fun _ => rfl⟩
  have hEX : eWs l = EX l := by rw [X.E_]; rfl
  rw [hEX]
  obtain ⟨M, hM⟩ : ∃ M : Int, M = nt (ll l) := ⟨_, rfl⟩
  have hMl : M = l.length := by rw [hM, K.nt_, X.ll_]
  have ln : A .len (EX l) = M := by rw [X.len, hM]
  apply wpV_seq; refine wpV_ofH (by ((try (conv => lhs; cbv)); (exact rfl))) ?_
  apply wpV_seq; refine wpV_ofH (by ((try (conv => lhs; cbv)); (repeat ((first | (rewrite [ln]) | (rewrite [K.neF]; rotate_left; focus ((try simp only [K.df, X.df, V.df, hzs, true_and, and_true]) <;> omega))); (try (conv => lhs; cbv)))); (exact rfl))) ?_
  apply wpV_seq; apply wpV_seq; refine wpV_ofH (by ((try (conv => lhs; cbv)); (repeat ((first | (rewrite [ln])); (try (conv => lhs; cbv)))); (exact rfl))) ?_
  apply wpV_block
  refine wpV_loop l.length (fun i st => ∃ J : Int, st = ⟨0, [.one (.iv (.sl t z (EX l))), .one (.iv (.sl t2 z2 (EX l))), u, u, u, u, u, u, u, u, u, u, i64 M, i64 J, u, u, u, u, u, u, u, u, u, u, u, u], []⟩ ∧ J = i) (by omega) (by ((try (conv => lhs; cbv)); (try (with_reducible rfl)))) ⟨0, rfl, rfl⟩ ?_
  rintro i hi st ⟨J, rfl, hJ⟩
  by_cases him : i < l.length
  · obtain rfl : z = 6 := by
      rcases hz with h | ⟨h, h2⟩
      · exact h
      · rw [h2] at him; simp at him
    obtain rfl : z2 = 6 := by
      rcases hz2 with h | ⟨h, h2⟩
      · exact h
      · rw [h2] at him; simp at him
    have g1 := X.get (l := l) (J := J) (by omega)
    generalize ix l J = w at *
    obtain ⟨⟨r, n⟩, tt, doc, f, txt⟩ := w
    have eq := neqW hA r n tt doc f txt
    (conv at eq => lhs; arg 2; cbv)
    dsimp only at g1
    refine wpV_ofH (by ((try (conv => lhs; cbv)); (repeat ((first | (rewrite [g1]) | (rewrite [eq]) | (rewrite [K.add]; rotate_left; focus ((try simp only [K.df, X.df, V.df, hzs, true_and, and_true]) <;> omega)) | (rewrite [K.ltT]; rotate_left; focus ((try simp only [K.df, X.df, V.df, hzs, true_and, and_true]) <;> omega))); (try (conv => lhs; cbv)))); (exact rfl))) ?_
    refine headQ_ofH (by ((try (conv => lhs; cbv)); (exact rfl))) ?_
    refine ⟨him, _, rfl, ?_⟩
    rw [K.pl_]; omega
  · obtain rfl : i = l.length := by omega
    refine wpV_ofH (by ((try (conv => lhs; cbv)); (repeat ((first | (rewrite [K.ltF]; rotate_left; focus ((try simp only [K.df, X.df, V.df, hzs, true_and, and_true]) <;> omega))); (try (conv => lhs; cbv)))); (exact rfl))) ?_
    show wpV _ _ _ _ _ _
    refine wpV_ofH (by ((try (conv => lhs; cbv)); (exact rfl))) ?_
    (show finV _ _ _ = some _; ((try (conv => lhs; cbv)); (try (with_reducible rfl))); (try rfl))
theorem n38 {v : List Int} (hv : v.length = 64) (l : List Wr) (t t2 : Bool) (z z2 : Nat) (hz : z = 6 ∨ z = 0 ∧ l = []) (hz2 : z2 = 6 ∨ z2 = 0 ∧ l = []) (hl : l.length ≤ 5000) :
    Pn 6003 38 [stF t z v l, stF t2 z2 v l] [] (bl true) [] := by
  refine playN 6002 rfl rfl fun A call hA hcall => ?_
  obtain ⟨pl, mi, ml, nt, tn, ad, sb, K⟩ := kit hA
  obtain ⟨EX, ix, sn, ll, cc, sg, X⟩ := lkit hA K zeroWr (fun w => [.int .i64 w.d.1, .int .i64 w.d.2, .int .i64 w.t, .str w.doc, .int .i64 w.f, .str w.txt]) 64
  obtain ⟨W, gx, st', V⟩ := rkit hA
  obtain ⟨zs, hzs⟩ : ∃ zs : ByteArray → Nat, ∀ s, zs s = s.size := ⟨_, fun _ => rfl⟩
  have k1 := n83 l t t2 z z2 hz hz2 hl 6002 (by omega)
  rw [← hcall] at k1
  have eq := eqv_vec hv hv
  rw [decide_eq_true rfl, ← hA] at eq
  dsimp only [stF] at *
  generalize eWs l = ws at *
  generalize vec v = vs at *
  refine wpV_ofH (by ((try (conv => lhs; cbv)); (repeat ((first | (rewrite [eq]) | (rewrite [k1])); (try (conv => lhs; cbv)))); (exact rfl))) ?_
  (show finV _ _ _ = some _; ((try (conv => lhs; cbv)); (try (with_reducible rfl))); (try rfl))
theorem enc_b (x : Nat) (hx : x < 2 ^ 64) : ∀ b, b ∈ enc x → b < 256 := by
  intro b hb
  simp only [enc, List.mem_cons] at hb
  rcases hb with rfl | h
  · exact fst8_lt hx
  · exact tl_lt _ _ _ h
theorem textB_b (s : ByteArray) (h : s.size < 2 ^ 64) : ∀ b, b ∈ textB s → b < 256 := by
  intro b hb
  rcases List.mem_append.1 hb with h1 | h1
  · exact enc_b _ h b h1
  · exact sbl_lt s b h1
theorem putB_b {v : List Int} (hg : goodB v = true) : ∀ b, b ∈ putB v → b < 256 := by
  intro b hb
  have hl := ats_len v 64
  have hm : ∀ j, j < (ats v 64).length → (ats v 64).getD j 0 < 64 := fun j hj => by
    have : (ats v 64).getD j 0 ∈ ats v 64 := by rw [List.getD_eq_getElem?_getD, List.getElem?_eq_getElem hj]; exact List.getElem_mem _
    exact (ats_mem.1 this).1
  unfold putB at hb
  rw [gs_flat, es2_flat] at hb
  simp only [List.mem_append, List.mem_flatMap, List.mem_range] at hb
  rcases hb with (h | ⟨j, hj, h⟩) | ⟨j, hj, h⟩
  · exact enc_b _ (by omega) b h
  · refine enc_b _ ?_ b h
    have := hm j hj
    unfold gap; omega
  · refine enc_b _ ?_ b h
    have := goodB_get hg (hm j hj)
    unfold fv; omega
theorem wrB_b {v : List Int} {w : Wr} (h : goodW v w = true) : ∀ b, b ∈ wrB w → b < 256 := by
  obtain ⟨c1, c2, c3, c4, c9006, c7, c8⟩ := goodW_0 h
  have v0 := valid_0 c1
  intro b hb
  unfold wrB at hb
  simp only [List.mem_append] at hb
  rcases hb with (h | h) | h | h | h | h
  · exact enc_b _ (by omega) b h
  · exact enc_b _ (by omega) b h
  · exact enc_b _ (by omega) b h
  · exact textB_b _ (by omega) b h
  · exact enc_b _ (by omega) b h
  · exact textB_b _ (by omega) b h
theorem stB_b {v : List Int} {l : List Wr} (hc : canB v l = true) : ∀ b, b ∈ stB v l → b < 256 := by
  obtain ⟨g1, g2, g3⟩ := canB_0 hc
  intro b hb
  unfold stB at hb
  rw [wsB_wsL _ _ (Nat.le_refl _), List.take_length] at hb
  simp only [List.mem_append, wsL, List.mem_flatMap] at hb
  rcases hb with h | h | ⟨w, hw, h⟩
  · exact putB_b g1 b h
  · exact enc_b _ (by omega) b h
  · exact wrB_b (g3 w hw) b h
/-! ### Shapes -/
def iSh : Sh := .int .i64
def vecSh : Sh := .row 64 iSh
def dotSh : Sh := .pair iSh (.pair iSh .unit)
def wrSh : Sh := .pair dotSh (.pair iSh (.pair .str (.pair iSh (.pair .str .unit))))
def stateSh : Sh := .pair vecSh (.pair (.sl wrSh 64) .unit)
theorem ty_int {xs : List IV} (h : TyI iSh xs) : ∃ n, xs = [.int .i64 n] := by
  obtain ⟨n, h, _⟩ := h; exact ⟨n, h⟩
theorem ty_vec {xs : List IV} (h : TyI vecSh xs) : ∃ v : List Int, xs = [.arr 64 (vec v)] ∧ v.length = 64 := by
  obtain ⟨ys, rfl, hl, hy⟩ := h
  have : ∃ v : List Int, ys = vec v := by
    clear hl
    induction ys with
    | nil => exact ⟨[], rfl⟩
    | cons y r ih =>
      obtain ⟨n, hn⟩ := ty_int (hy y (by simp))
      obtain ⟨v, rfl⟩ := ih fun z hz => hy z (by simp [hz])
      simp only [List.cons.injEq, and_true] at hn
      subst hn
      exact ⟨n :: v, rfl⟩
  obtain ⟨v, rfl⟩ := this
  exact ⟨v, rfl, by simpa [vec] using hl⟩
theorem ty_wr {c : List IV} (h : TyI wrSh c) : ∃ w : Wr, c = wI w ∧ w.doc.size ≤ 1000000000000000 := by
  obtain ⟨y1, z1, rfl, ⟨a1, b1, rfl, ⟨r, rfl, _⟩, ⟨a2, b2, rfl, ⟨n, rfl, _⟩, rfl⟩⟩, ⟨y2, z2, rfl, ⟨t, rfl, _⟩, ⟨y4, z4, rfl, ⟨d, rfl, hds⟩, ⟨y5, z5, rfl, ⟨f, rfl, _⟩, ⟨y6, z6, rfl, ⟨x, rfl, _⟩, rfl⟩⟩⟩⟩⟩ := h
  exact ⟨⟨(r, n), t, d, f, x⟩, rfl, by unfold reachBytes at hds; dsimp only; omega⟩
theorem ty_wrs : ∀ {es : List (List IV)}, (∀ c, c ∈ es → TyI wrSh c) → ∃ l : List Wr, es = eWs l ∧ ∀ w, w ∈ l → w.doc.size ≤ 1000000000000000
  | [], _ => ⟨[], rfl, fun w h => by simp at h⟩
  | c :: r, h => by
    obtain ⟨l, rfl, h2⟩ := ty_wrs (es := r) fun c hc => h c (by simp [hc])
    obtain ⟨w, rfl, hw⟩ := ty_wr (h c (by simp))
    refine ⟨w :: l, rfl, fun x hx => ?_⟩
    rcases List.mem_cons.1 hx with rfl | hx
    · exact hw
    · exact h2 x hx
theorem ty_state {c : List IV} (h : TyI stateSh c) : ∃ (v : List Int) (l : List Wr), c = [.arr 64 (vec v), .sl false 6 (eWs l)] ∧ v.length = 64 ∧ ∀ w, w ∈ l → w.doc.size ≤ 1000000000000000 := by
  obtain ⟨a1, b1, rfl, h1, ⟨a2, b2, rfl, ⟨es, rfl, _, he⟩, rfl⟩⟩ := h
  obtain ⟨v, rfl, hv⟩ := ty_vec h1
  obtain ⟨l, rfl, hl⟩ := ty_wrs he
  exact ⟨v, l, rfl, hv, hl⟩
end Go.Proofs.Ytlljgefgbglmbaa
