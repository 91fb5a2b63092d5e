/- Vectors as one, and with one dot more: as equations. -/
import Derived.Test.YtomchclmnmhjaaaPXE
set_option linter.unusedSimpArgs false
set_option linter.unusedVariables false
set_option maxRecDepth 100000
set_option maxHeartbeats 1000000
namespace Go.Proofs.Ytomchclmnmhjaaa
open Go GoV

theorem mi_real (a b : Int) : real .mi a b = min a b := by
  rw [real_mi]; omega
theorem w79 (A : Ar) (call : CallT) (it : IterT) (x y : Int) : wpV A call it v79.body ⟨0, padE 8 [i64 x, i64 y], []⟩ (finQ A v79 (i64 (A .mx x y), [])) := by
  refine wpV_of (by ((conv => lhs; cbv); (try (with_reducible rfl)))) ?_
  (show finV _ _ _ = some _; ((conv => lhs; cbv); (try (with_reducible rfl))); (try rfl))
theorem w80 (A : Ar) (call : CallT) (it : IterT) (x y : Int) : wpV A call it v80.body ⟨0, padE 8 [i64 x, i64 y], []⟩ (finQ A v80 (i64 (A .mi x y), [])) := by
  refine wpV_of (by ((conv => lhs; cbv); (try (with_reducible rfl)))) ?_
  (show finV _ _ _ = some _; ((conv => lhs; cbv); (try (with_reducible rfl))); (try rfl))
theorem p79 (x y : Int) : Pl 79 [i64 x, i64 y] (i64 (max x y)) [] := Plays.wp (vf := v79) rfl rfl ⟨0, fun A call hA _ => by
  subst hA
  rw [← mx_real]
  exact w79 real call _ x y⟩
theorem p80 (x y : Int) : Pl 80 [i64 x, i64 y] (i64 (min x y)) [] := Plays.wp (vf := v80) rfl rfl ⟨0, fun A call hA _ => by
  subst hA
  rw [← mi_real]
  exact w80 real call _ x y⟩
def N78 (g : Nat) (a b : List IV) (i : Int) : St := ⟨0, [u, u, .one (.iv (.fn g)), .one (.ptr 0 0), .one (.ptr 1 0), u, .one (.ptr 2 0), u, i64 i, u, u, u, u, u, u, u, u, u, u, u, u, u, u], [.var false [.iv (.arr 64 a)], .var false [.iv (.arr 64 b)], .var false [.iv (.arr 64 (List.replicate 64 (.int .i64 0)))]]⟩
theorem w78 (A : Ar) (call : CallT) (n : Nat) (hn : 64 < n) (g : Nat) (b : List IV) (Y : Nat → List IV) (x y z ix : Nat → Int) (k : Nat → Nat) (hi0 : ix 0 = 0)
    (h1 : ∀ i, i < 64 → A .cmp .lss (ix i) 64 = true) (h1' : A .cmp .lss (ix 64) 64 = false) (h2 : ∀ i, i < 64 → A .at_ (ix i) 64 = some (k i)) (h3 : ∀ i, i < 64 → A .getc (Y i) (ix i) = some (.int .i64 (x i))) (h4 : ∀ i, i < 64 → A .getc b (ix i) = some (.int .i64 (y i)))
    (h5 : ∀ i, i < 64 → call g [i64 (x i), i64 (y i)] [] = some (i64 (z i), [])) (h6 : ∀ i, i < 64 → A .setc (Y i) (ix i) (.int .i64 (z i)) = some (Y (i + 1))) (h7 : ∀ i, i < 64 → A .ar .add .i64 (ix i) 1 = ix (i + 1)) :
    wpV A call (iterN n) v78.body ⟨0, padE 23 [.agg [.iv (.arr 64 (Y 0))], .agg [.iv (.arr 64 b)], .one (.iv (.fn g))], []⟩ (finQ A v78 (.agg [.iv (.arr 64 (Y 64))], [])) := by
  apply wpV_seq; refine wpV_of (by ((conv => lhs; cbv); (try (with_reducible rfl)))) ?_
  apply wpV_seq; apply wpV_seq; refine wpV_of (by ((conv => lhs; cbv); (try (with_reducible rfl)))) ?_
  apply wpV_block
  refine wpV_loop 64 (fun i s => s = N78 g (Y i) b (ix i)) hn (by ((conv => lhs; cbv); (try (with_reducible rfl)))) (by rw [hi0]; rfl) ?_
  rintro i hi s rfl
  by_cases him : i < 64
  · refine wpV_of (by ((conv => lhs; cbv); (repeat ((first | rewrite [h1 i him] | rewrite [h2 i him] | rewrite [h3 i him] | rewrite [h4 i him] | rewrite [h5 i him] | rewrite [h6 i him]); (try (conv => lhs; cbv)))); (try (with_reducible rfl)))) ?_
    refine headQ_of (by ((conv => lhs; cbv); (try (with_reducible rfl)))) ?_
    exact ⟨him, by rw [h7 i him]; rfl⟩
  · obtain rfl : i = 64 := by omega
    refine wpV_of (by ((conv => lhs; cbv); (repeat ((first | rewrite [h1']); (try (conv => lhs; cbv)))); (try (with_reducible rfl)))) ?_
    show wpV _ _ _ _ _ _
    refine wpV_of (by ((conv => lhs; cbv); (try (with_reducible rfl)))) ?_
    (show finV _ _ _ = some _; ((conv => lhs; cbv); (try (with_reducible rfl))); (try rfl))
def zipI (op : Int → Int → Int) (a b : List Int) : List Int := (List.range 64).map fun i => op (a.getD i 0) (b.getD i 0)
def mixI (op : Int → Int → Int) (a b : List Int) (i : Nat) : List Int := (List.range 64).map fun j => if j < i then op (a.getD j 0) (b.getD j 0) else a.getD j 0
theorem mix_len (op : Int → Int → Int) (a b : List Int) (i : Nat) : (mixI op a b i).length = 64 := by simp [mixI]
theorem zip_len (op : Int → Int → Int) (a b : List Int) : (zipI op a b).length = 64 := by simp [zipI]
theorem mix_zero (op : Int → Int → Int) {a : List Int} (b : List Int) (h : a.length = 64) : mixI op a b 0 = a := by
  apply List.ext_getElem
  · simp [mixI, h]
  · intro i h1 h2
    simp [mixI, h2]
theorem mix_last (op : Int → Int → Int) (a b : List Int) : mixI op a b 64 = zipI op a b := by
  apply List.map_congr_left
  intro i hi
  simp only [List.mem_range] at hi
  simp [hi]
theorem mix_get (op : Int → Int → Int) (a b : List Int) {i : Nat} (h : i < 64) : (mixI op a b i).getD i 0 = a.getD i 0 := by
  simp [mixI, h]
theorem mix_set (op : Int → Int → Int) (a b : List Int) {i : Nat} (h : i < 64) : (mixI op a b i).set i (op (a.getD i 0) (b.getD i 0)) = mixI op a b (i + 1) := by
  apply List.ext_getElem
  · simp [mixI]
  · intro j h1 h2
    simp only [mixI, List.getElem_set, List.getElem_map, List.getElem_range]
    by_cases e : i = j
    · subst e; simp
    · by_cases hj : j < i
      · simp [e, hj, show j < i + 1 by omega]
      · simp [e, hj, show ¬ j < i + 1 by omega]
theorem p78 {g : Nat} {op : Int → Int → Int} (hg : ∀ x y, Pl g [i64 x, i64 y] (i64 (op x y)) []) {a b : List Int} (ha : a.length = 64) (hb : b.length = 64) : Pl 78 [vecF a, vecF b, .one (.iv (.fn g))] (vecF (zipI op a b)) [] := by
  obtain ⟨k, hk⟩ := Plays.all pr_mono (T := lookT tab) (pr := fun _ => clonePr clones) (f := g) (vs := fun i => [i64 (a.getD i 0), i64 (b.getD i 0)]) (bs := fun _ => []) (r := fun i => (i64 (op (a.getD i 0) (b.getD i 0)), [])) (m := 64) (fun i _ => hg _ _)
  refine Plays.wp (vf := v78) rfl rfl ⟨max k 65, fun A call hA hcall => ?_⟩
  subst hA; subst hcall
  have := w78 real (play real (lookT tab) (fun _ => clonePr clones) (max k 65)) (max k 65) (by omega) g (vec b) (fun i => vec (mixI op a b i)) (fun i => a.getD i 0) (fun i => b.getD i 0) (fun i => op (a.getD i 0) (b.getD i 0)) (fun i => (i : Int)) (fun i => i) rfl
    (fun i hi => by rw [lss_real]; simp; omega) (by rw [lss_real]; simp) (fun i hi => by rw [at_real (by omega) (by omega)]; simp) (fun i hi => by rw [getc_nat (by rw [mix_len]; exact hi), mix_get op a b hi]) (fun i hi => getc_nat (by omega))
    (fun i hi => hk _ (by omega) i hi) (fun i hi => by rw [setc_real (by omega) (by rw [mix_len]; omega)]; simp only [Int.toNat_natCast]; rw [mix_set op a b hi]) (fun i hi => inc_real (by omega))
  rw [mix_zero op b ha, mix_last] at this
  exact this
theorem w26 (A : Ar) (call : CallT) (it : IterT) (a b c : List IV) (h : call 78 [.agg [.iv (.arr 64 a)], .agg [.iv (.arr 64 b)], .one (.iv (.fn 79))] [] = some (.agg [.iv (.arr 64 c)], [])) :
    wpV A call it v26.body ⟨0, padE 8 [.agg [.iv (.arr 64 a)], .agg [.iv (.arr 64 b)]], []⟩ (finQ A v26 (.agg [.iv (.arr 64 c)], [])) := by
  refine wpV_of (by ((conv => lhs; cbv); (repeat ((first | rewrite [h]); (try (conv => lhs; cbv)))); (try (with_reducible rfl)))) ?_
  (show finV _ _ _ = some _; ((conv => lhs; cbv); (try (with_reducible rfl))); (try rfl))
theorem w27 (A : Ar) (call : CallT) (it : IterT) (a b c : List IV) (h : call 78 [.agg [.iv (.arr 64 a)], .agg [.iv (.arr 64 b)], .one (.iv (.fn 80))] [] = some (.agg [.iv (.arr 64 c)], [])) :
    wpV A call it v27.body ⟨0, padE 8 [.agg [.iv (.arr 64 a)], .agg [.iv (.arr 64 b)]], []⟩ (finQ A v27 (.agg [.iv (.arr 64 c)], [])) := by
  refine wpV_of (by ((conv => lhs; cbv); (repeat ((first | rewrite [h]); (try (conv => lhs; cbv)))); (try (with_reducible rfl)))) ?_
  (show finV _ _ _ = some _; ((conv => lhs; cbv); (try (with_reducible rfl))); (try rfl))
abbrev joinI (a b : List Int) : List Int := zipI max a b
abbrev meetI (a b : List Int) : List Int := zipI min a b
theorem p26 {a b : List Int} (ha : a.length = 64) (hb : b.length = 64) : Pl 26 [vecF a, vecF b] (vecF (joinI a b)) [] := by
  obtain ⟨n, h⟩ := p78 p79 ha hb
  exact Plays.wp (vf := v26) rfl rfl ⟨n, fun A call hA hcall => by subst hA; subst hcall; exact w26 real _ _ _ _ _ h⟩
theorem p27 {a b : List Int} (ha : a.length = 64) (hb : b.length = 64) : Pl 27 [vecF a, vecF b] (vecF (meetI a b)) [] := by
  obtain ⟨n, h⟩ := p78 p80 ha hb
  exact Plays.wp (vf := v27) rfl rfl ⟨n, fun A call hA hcall => by subst hA; subst hcall; exact w27 real _ _ _ _ _ h⟩

theorem eqL_vec : ∀ {v w : List Int}, v.length = w.length → rEqL (List.replicate v.length .int) (vec v) (vec w) = some (decide (v = w))
  | [], [], _ => rfl
  | [], _ :: _, h => by simp at h
  | _ :: _, [], h => by simp at h
  | x :: r, y :: s, h => by
    have ih := eqL_vec (v := r) (w := s) (by simpa using h)
    simp only [vec] at ih
    simp only [vec, List.length_cons, List.replicate_succ, List.map_cons, rEqL, rEqK, if_true, Option.bind_some, ih, List.cons.injEq]
    by_cases e : x = y <;> by_cases f : r = s <;> simp [e, f]
theorem vec_plain (v : List Int) : (vec v).all plainI = true := by
  simp [vec, plainI]
theorem flat_vec {v : List Int} (h : v.length = 64) : flatI [.arr 64 (vec v)] = some (vec v) := by
  have hl : (vec v).length = 64 := by simpa [vec] using h
  rw [flatI, if_pos ⟨hl, vec_plain v⟩]
  simp [flatI]
theorem eqv_vec {v w : List Int} (h : v.length = 64) (h' : w.length = 64) : real .eqv [.int, .int, .int, .int, .int, .int, .int, .int, .int, .int, .int, .int, .int, .int, .int, .int, .int, .int, .int, .int, .int, .int, .int, .int, .int, .int, .int, .int, .int, .int, .int, .int, .int, .int, .int, .int, .int, .int, .int, .int, .int, .int, .int, .int, .int, .int, .int, .int, .int, .int, .int, .int, .int, .int, .int, .int, .int, .int, .int, .int, .int, .int, .int, .int] [.arr 64 (vec v)] [.arr 64 (vec w)] = some (decide (v = w)) := by
  show rEqv _ _ _ = _
  rw [rEqv, flat_vec h, flat_vec h']
  simp only [Option.bind_some]
  have := eqL_vec (v := v) (w := w) (by omega)
  rw [h] at this
  exact this
theorem w28 (A : Ar) (call : CallT) (it : IterT) (a b c : List IV) {t : Bool} (h : call 26 [.agg [.iv (.arr 64 a)], .agg [.iv (.arr 64 b)]] [] = some (.agg [.iv (.arr 64 c)], [])) (e : A .eqv [.int, .int, .int, .int, .int, .int, .int, .int, .int, .int, .int, .int, .int, .int, .int, .int, .int, .int, .int, .int, .int, .int, .int, .int, .int, .int, .int, .int, .int, .int, .int, .int, .int, .int, .int, .int, .int, .int, .int, .int, .int, .int, .int, .int, .int, .int, .int, .int, .int, .int, .int, .int, .int, .int, .int, .int, .int, .int, .int, .int, .int, .int, .int, .int] [.arr 64 c] [.arr 64 b] = some t) :
    wpV A call it v28.body ⟨0, padE 10 [.agg [.iv (.arr 64 a)], .agg [.iv (.arr 64 b)]], []⟩ (finQ A v28 (bl t, [])) := by
  refine wpV_of (by ((conv => lhs; cbv); (repeat ((first | rewrite [h] | rewrite [e]); (try (conv => lhs; cbv)))); (try (with_reducible rfl)))) ?_
  (show finV _ _ _ = some _; ((conv => lhs; cbv); (try (with_reducible rfl))); (try rfl))
theorem p28 {a b : List Int} (ha : a.length = 64) (hb : b.length = 64) : Pl 28 [vecF a, vecF b] (bl (decide (joinI a b = b))) [] := by
  obtain ⟨n, h⟩ := p26 ha hb
  exact Plays.wp (vf := v28) rfl rfl ⟨n, fun A call hA hcall => by subst hA; subst hcall; exact w28 real _ _ _ _ _ h (eqv_vec (zip_len _ _ _) hb)⟩
def N29 (Y b : List IV) (i : Int) : St := ⟨0, [u, u, .one (.ptr 0 0), u, .one (.ptr 1 0), u, u, .agg [.iv (.arr 64 b)], i64 i, u, u, u, u, u, u, u, u, u, u, u, u, u], [.var false [.iv (.arr 64 Y)], .var false [.iv (.arr 64 (List.replicate 64 (.int .i64 0)))]]⟩
theorem w29 (A : Ar) (call : CallT) (n : Nat) (hn : 64 < n) (b : List IV) (Y : Nat → List IV) (x y ix : Nat → Int) (k : Nat → Nat) (hi0 : ix 0 = 0)
    (h1 : ∀ i, i < 64 → A .cmp .lss (ix i) 64 = true) (h1' : A .cmp .lss (ix 64) 64 = false) (h2 : ∀ i, i < 64 → A .at_ (ix i) 64 = some (k i)) (h3 : ∀ i, i < 64 → A .getc (Y i) (ix i) = some (.int .i64 (x i))) (h4 : ∀ i, i < 64 → A .getc b (ix i) = some (.int .i64 (y i)))
    (h6 : ∀ i, i < 64 → (A .cmp .gtr (y i) (x i) = true ∧ A .setc (Y i) (ix i) (.int .i64 (y i)) = some (Y (i + 1))) ∨ (A .cmp .gtr (y i) (x i) = false ∧ Y i = Y (i + 1))) (h7 : ∀ i, i < 64 → A .ar .add .i64 (ix i) 1 = ix (i + 1)) :
    wpV A call (iterN n) v29.body ⟨0, padE 22 [.agg [.iv (.arr 64 (Y 0))], .agg [.iv (.arr 64 b)]], []⟩ (finQ A v29 (.agg [.iv (.arr 64 (Y 64))], [])) := by
  apply wpV_seq; refine wpV_of (by ((conv => lhs; cbv); (try (with_reducible rfl)))) ?_
  apply wpV_seq; apply wpV_seq; refine wpV_of (by ((conv => lhs; cbv); (try (with_reducible rfl)))) ?_
  apply wpV_block
  refine wpV_loop 64 (fun i s => s = N29 (Y i) b (ix i)) hn (by ((conv => lhs; cbv); (try (with_reducible rfl)))) (by rw [hi0]; rfl) ?_
  rintro i hi s rfl
  by_cases him : i < 64
  · rcases h6 i him with ⟨c1, c2⟩ | ⟨c1, c2⟩
    · refine wpV_of (by ((conv => lhs; cbv); (repeat ((first | rewrite [h1 i him] | rewrite [h4 i him] | rewrite [h2 i him] | rewrite [h3 i him] | rewrite [c1] | rewrite [c2]); (try (conv => lhs; cbv)))); (try (with_reducible rfl)))) ?_
      refine headQ_of (by ((conv => lhs; cbv); (try (with_reducible rfl)))) ?_
      exact ⟨him, by rw [h7 i him]; rfl⟩
    · refine wpV_of (by ((conv => lhs; cbv); (repeat ((first | rewrite [h1 i him] | rewrite [h4 i him] | rewrite [h2 i him] | rewrite [h3 i him] | rewrite [c1]); (try (conv => lhs; cbv)))); (try (with_reducible rfl)))) ?_
      refine headQ_of (by ((conv => lhs; cbv); (try (with_reducible rfl)))) ?_
      exact ⟨him, by rw [h7 i him, c2]; rfl⟩
  · obtain rfl : i = 64 := by omega
    refine wpV_of (by ((conv => lhs; cbv); (repeat ((first | rewrite [h1']); (try (conv => lhs; cbv)))); (try (with_reducible rfl)))) ?_
    show wpV _ _ _ _ _ _
    refine wpV_of (by ((conv => lhs; cbv); (try (with_reducible rfl)))) ?_
    (show finV _ _ _ = some _; ((conv => lhs; cbv); (try (with_reducible rfl))); (try rfl))
theorem w30 (A : Ar) (call : CallT) (n : Nat) (hn : 64 < n) (b : List IV) (Y : Nat → List IV) (x y ix : Nat → Int) (k : Nat → Nat) (hi0 : ix 0 = 0)
    (h1 : ∀ i, i < 64 → A .cmp .lss (ix i) 64 = true) (h1' : A .cmp .lss (ix 64) 64 = false) (h2 : ∀ i, i < 64 → A .at_ (ix i) 64 = some (k i)) (h3 : ∀ i, i < 64 → A .getc (Y i) (ix i) = some (.int .i64 (x i))) (h4 : ∀ i, i < 64 → A .getc b (ix i) = some (.int .i64 (y i)))
    (h6 : ∀ i, i < 64 → (A .cmp .lss (y i) (x i) = true ∧ A .setc (Y i) (ix i) (.int .i64 (y i)) = some (Y (i + 1))) ∨ (A .cmp .lss (y i) (x i) = false ∧ Y i = Y (i + 1))) (h7 : ∀ i, i < 64 → A .ar .add .i64 (ix i) 1 = ix (i + 1)) :
    wpV A call (iterN n) v30.body ⟨0, padE 22 [.agg [.iv (.arr 64 (Y 0))], .agg [.iv (.arr 64 b)]], []⟩ (finQ A v30 (.agg [.iv (.arr 64 (Y 64))], [])) := by
  apply wpV_seq; refine wpV_of (by ((conv => lhs; cbv); (try (with_reducible rfl)))) ?_
  apply wpV_seq; apply wpV_seq; refine wpV_of (by ((conv => lhs; cbv); (try (with_reducible rfl)))) ?_
  apply wpV_block
  refine wpV_loop 64 (fun i s => s = N29 (Y i) b (ix i)) hn (by ((conv => lhs; cbv); (try (with_reducible rfl)))) (by rw [hi0]; rfl) ?_
  rintro i hi s rfl
  by_cases him : i < 64
  · rcases h6 i him with ⟨c1, c2⟩ | ⟨c1, c2⟩
    · refine wpV_of (by ((conv => lhs; cbv); (repeat ((first | rewrite [h1 i him] | rewrite [h4 i him] | rewrite [h2 i him] | rewrite [h3 i him] | rewrite [c1] | rewrite [c2]); (try (conv => lhs; cbv)))); (try (with_reducible rfl)))) ?_
      refine headQ_of (by ((conv => lhs; cbv); (try (with_reducible rfl)))) ?_
      exact ⟨him, by rw [h7 i him]; rfl⟩
    · refine wpV_of (by ((conv => lhs; cbv); (repeat ((first | rewrite [h1 i him] | rewrite [h4 i him] | rewrite [h2 i him] | rewrite [h3 i him] | rewrite [c1]); (try (conv => lhs; cbv)))); (try (with_reducible rfl)))) ?_
      refine headQ_of (by ((conv => lhs; cbv); (try (with_reducible rfl)))) ?_
      exact ⟨him, by rw [h7 i him, c2]; rfl⟩
  · obtain rfl : i = 64 := by omega
    refine wpV_of (by ((conv => lhs; cbv); (repeat ((first | rewrite [h1']); (try (conv => lhs; cbv)))); (try (with_reducible rfl)))) ?_
    show wpV _ _ _ _ _ _
    refine wpV_of (by ((conv => lhs; cbv); (try (with_reducible rfl)))) ?_
    (show finV _ _ _ = some _; ((conv => lhs; cbv); (try (with_reducible rfl))); (try rfl))
theorem mix_skip (op : Int → Int → Int) (a b : List Int) {i : Nat} (h : i < 64) (e : op (a.getD i 0) (b.getD i 0) = a.getD i 0) : mixI op a b i = mixI op a b (i + 1) := by
  apply List.map_congr_left
  intro j hj
  by_cases c : j < i
  · simp [c, show j < i + 1 by omega]
  · by_cases d : j = i
    · subst d
      rw [if_neg c, if_pos (by omega), e]
    · simp [c, show ¬ j < i + 1 by omega]
theorem p29 {a b : List Int} (ha : a.length = 64) (hb : b.length = 64) : Pl 29 [vecF a, vecF b] (vecF (joinI a b)) [] := by
  refine Plays.wp (vf := v29) rfl rfl ⟨65, fun A call hA _ => ?_⟩
  subst hA
  have := w29 real call 65 (by omega) (vec b) (fun i => vec (mixI max a b i)) (fun i => a.getD i 0) (fun i => b.getD i 0) (fun i => (i : Int)) (fun i => i) rfl
    (fun i hi => by rw [lss_real]; simp; omega) (by rw [lss_real]; simp) (fun i hi => by rw [at_real (by omega) (by omega)]; simp) (fun i hi => by rw [getc_nat (by rw [mix_len]; exact hi), mix_get max a b hi]) (fun i hi => getc_nat (by omega))
    (fun i hi => by
      rw [gtr_real]
      by_cases h : b.getD i 0 > a.getD i 0
      · refine .inl ⟨decide_eq_true h, ?_⟩
        rw [setc_real (by omega) (by rw [mix_len]; omega)]
        simp only [Int.toNat_natCast]
        have := mix_set max a b hi
        rw [show max (a.getD i 0) (b.getD i 0) = b.getD i 0 by omega] at this
        rw [this]
      · exact .inr ⟨decide_eq_false h, by rw [mix_skip max a b hi (by omega)]⟩) (fun i hi => inc_real (by omega))
  rw [mix_zero max b ha, mix_last] at this
  exact this
theorem p30 {a b : List Int} (ha : a.length = 64) (hb : b.length = 64) : Pl 30 [vecF a, vecF b] (vecF (meetI a b)) [] := by
  refine Plays.wp (vf := v30) rfl rfl ⟨65, fun A call hA _ => ?_⟩
  subst hA
  have := w30 real call 65 (by omega) (vec b) (fun i => vec (mixI min a b i)) (fun i => a.getD i 0) (fun i => b.getD i 0) (fun i => (i : Int)) (fun i => i) rfl
    (fun i hi => by rw [lss_real]; simp; omega) (by rw [lss_real]; simp) (fun i hi => by rw [at_real (by omega) (by omega)]; simp) (fun i hi => by rw [getc_nat (by rw [mix_len]; exact hi), mix_get min a b hi]) (fun i hi => getc_nat (by omega))
    (fun i hi => by
      rw [lss_real]
      by_cases h : b.getD i 0 < a.getD i 0
      · refine .inl ⟨decide_eq_true h, ?_⟩
        rw [setc_real (by omega) (by rw [mix_len]; omega)]
        simp only [Int.toNat_natCast]
        have := mix_set min a b hi
        rw [show min (a.getD i 0) (b.getD i 0) = b.getD i 0 by omega] at this
        rw [this]
      · exact .inr ⟨decide_eq_false h, by rw [mix_skip min a b hi (by omega)]⟩) (fun i hi => inc_real (by omega))
  rw [mix_zero min b ha, mix_last] at this
  exact this

theorem w24 (A : Ar) (call : CallT) (it : IterT) (xs xs' : List IV) (r n : Int) {b c : Bool} {k : Nat} {x : Int} (hc : call 19 [dotF r n] [] = some (bl b, [])) (h1 : b = true → A .at_ r 64 = some k) (h2 : b = true → A .getc xs r = some (.int .i64 x)) (h4 : A .cmp .lss x n = c) (h3 : b = true → c = true → A .setc xs r (.int .i64 n) = some xs') :
    wpV A call it v24.body ⟨0, padE 22 [.agg [.iv (.arr 64 xs)], dotF r n], []⟩ (finQ A v24 (.agg [.iv (.arr 64 (bif b && c then xs' else xs))], [])) := by
  cases b
  · refine wpV_of (by ((conv => lhs; cbv); (repeat ((first | rewrite [hc]); (try (conv => lhs; cbv)))); (try (with_reducible rfl)))) ?_
    (show finV _ _ _ = some _; ((conv => lhs; cbv); (try (with_reducible rfl))); (try rfl))
  · cases c
    · refine wpV_of (by ((conv => lhs; cbv); (repeat ((first | rewrite [hc] | rewrite [h1 rfl] | rewrite [h2 rfl] | rewrite [h4]); (try (conv => lhs; cbv)))); (try (with_reducible rfl)))) ?_
      (show finV _ _ _ = some _; ((conv => lhs; cbv); (try (with_reducible rfl))); (try rfl))
    · refine wpV_of (by ((conv => lhs; cbv); (repeat ((first | rewrite [hc] | rewrite [h1 rfl] | rewrite [h2 rfl] | rewrite [h4] | rewrite [h3 rfl rfl]); (try (conv => lhs; cbv)))); (try (with_reducible rfl)))) ?_
      (show finV _ _ _ = some _; ((conv => lhs; cbv); (try (with_reducible rfl))); (try rfl))
theorem p24 {v : List Int} (hv : v.length = 64) (r n : Int) : Pl 24 [vecF v, dotF r n] (vecF (withB v r n)) [] := by
  obtain ⟨n0, h0⟩ := p19 r n
  refine Plays.wp (vf := v24) rfl rfl ⟨n0, fun A call hA hcall => ?_⟩
  subst hA; subst hcall
  have := w24 real _ (iterN n0) _ (vec (v.set r.toNat n)) r n h0 (fun h => at_real (validB_range h).1 (validB_range h).2.1) (fun h => getc_real (validB_range h).1 (by rw [hv]; exact (validB_range h).2.1)) (lss_real _ _)
    (fun h _ => setc_real (validB_range h).1 (by rw [hv]; exact (validB_range h).2.1) _)
  have he : (bif validB r n && decide (v.getD r.toNat 0 < n) then vec (v.set r.toNat n) else vec v) = vec (withB v r n) := by
    unfold withB
    cases hb : validB r n with
    | false => simp
    | true =>
      have hlt : r.toNat < v.length := by have := validB_range hb; omega
      by_cases hc : v.getD r.toNat 0 < n
      · rw [decide_eq_true hc]
        simp only [Bool.true_and, cond_true, if_true]
        rw [show max (v.getD r.toNat 0) n = n by omega]
      · rw [decide_eq_false hc]
        simp only [Bool.and_false, cond_false, if_true]
        rw [show max (v.getD r.toNat 0) n = v.getD r.toNat 0 by omega]
        congr 1
        apply List.ext_getElem?
        intro i
        rw [List.getElem?_set]
        by_cases e : r.toNat = i
        · subst e; simp [hlt]
        · simp [e]
  rw [he] at this
  exact this

end Go.Proofs.Ytomchclmnmhjaaa
