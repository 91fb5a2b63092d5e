/- A past trimmed, and without what all have. -/
import Derived.Test.YtomchclmnmhjaaaPXB
set_option linter.unusedSimpArgs false
set_option linter.unusedVariables false
set_option maxRecDepth 100000
namespace Go.Proofs.Ytomchclmnmhjaaa
open Go GoV

abbrev evF (e : Ev) : FV := .agg [.iv (.int .i64 e.r), .iv (.int .i64 e.n), .iv (.int .i64 e.t), .iv (.int .i64 e.k), .iv (.str e.d), .iv (.int .i64 e.f), .iv (.str e.x), .iv (.sl e.b 2 e.g)]
abbrev evC (e : Ev) (L : Nat) : FV := .agg [.iv (.int .i64 e.r), .iv (.int .i64 e.n), .iv (.int .i64 e.t), .iv (.int .i64 e.k), .iv (.str e.d), .iv (.int .i64 e.f), .iv (.str e.x), .slo 0 0 L]
theorem p83 (b : Bool) (g : List (List IV)) (hg : g.length * 16 ≤ reachBytes) : Pl 83 [.one (.iv (.sl b 2 g))] (.one (.slo 0 0 g.length)) [.arr false false 2 g] := by
  refine ⟨1, ?_⟩
  have ha : real .app 16 [] g = some (false, g) := by
    rw [real_app]
    have : g.length * 16 ≤ room := Nat.le_trans hg (by decide)
    simp [rApp, this]
  show cloneV 2 16 [.one (.iv (.sl b 2 g))] [] = _
  simp only [cloneV, ha]
  rfl
theorem w97 (A : Ar) (call : CallT) (it : IterT) (e : Ev) (L : Nat) (h : call 83 [.one (.iv (.sl e.b 2 e.g))] [] = some (.one (.slo 0 0 L), [.arr false false 2 e.g])) :
    wpV A call it v97.body ⟨0, padE 8 [evF e], []⟩ (finQ A v97 (evC e L, [.arr false false 2 e.g])) := by
  refine wpV_of (by ((conv => lhs; cbv); (repeat ((first | rewrite [h]); (try (conv => lhs; cbv)))); (try (with_reducible rfl)))) ?_
  (show finV _ _ _ = some _; ((conv => lhs; cbv); (try (with_reducible rfl))); (try rfl))
theorem p97 (e : Ev) (hg : e.g.length * 16 ≤ reachBytes) : Pl 97 [evF e] (evC e e.g.length) [.arr false false 2 e.g] := by
  obtain ⟨n, hn⟩ := p83 e.b e.g hg
  refine Plays.wp (vf := v97) rfl rfl ⟨n, fun A call hA hc => ?_⟩
  exact w97 A call _ e _ (by rw [hc]; exact hn)

def N55a (fl : Bool) (es : List (List IV)) (X : List IV) (len most cnt i : Int) : St := ⟨0, [u, i64 most, .one (.ptr 0 0), u, .one (.ptr 1 0), i64 cnt, u, u, u, u, u, u, .one (.iv (.sl fl 8 es)), i64 len, i64 i, u, u, u, u, u, u, u, u, u, u, u, u, u, u, u, u, u, u, u, u, u, u, u, u, u, u, u, u, u, u, u, u, u, u, u, u, u, u, u, u, u, u, u, u, u],
  [.var false [.iv (.sl fl 8 es), .iv (.arr 64 X)], .var false [.iv (.sl true 0 []), .iv (.arr 64 (List.replicate 64 (.int .i64 0)))]]⟩
def N55b (fl : Bool) (es out : List (List IV)) (X : List IV) (len most cnt i : Int) (nn : Nat) : St := ⟨0, [u, i64 most, u, u, .one (.ptr 0 0), i64 cnt, u, u, .one (.ptr 1 0), u, u, u, u, u, u, u, u, u, u, u, u, u, u, u, u, u, u, u, .one (.iv (.sl fl 8 es)), i64 len, i64 i, u, u, u, u, u, u, u, u, u, u, u, u, u, u, u, u, u, u, u, u, u, u, u, u, u, u, u, u, u],
  [.var false [.iv (.sl true 0 []), .iv (.arr 64 (List.replicate 64 (.int .i64 0)))], .var false [.slo 2 0 nn, .iv (.arr 64 X)], .arr false false 8 out]⟩
abbrev cells (e : Ev) (b : Bool) (g : List (List IV)) : List IV := [.int .i64 e.r, .int .i64 e.n, .int .i64 e.t, .int .i64 e.k, .str e.d, .int .i64 e.f, .str e.x, .sl b 2 g]
theorem w55 (A : Ar) (call : CallT) (n m : Nat) (hn : m < n) (fl : Bool) (es : List (List IV)) (X : List IV) (most mx : Int) (ev : Nat → Ev) (L : Nat → Nat) (ct ix dn : Nat → Int) (out : Nat → List (List IV)) (nn : Nat → Nat) (Y : Nat → List IV)
    (hc0 : ct 0 = 0) (hi0 : ix 0 = 0) (hd0 : dn 0 = ct m) (ho0 : out 0 = []) (hn0 : nn 0 = 0) (hY : Y 0 = X)
    (h1 : ∀ i, i < m → A .cmp .lss (ix i) (A .len es) = true) (h1' : A .cmp .lss (ix m) (A .len es) = false) (h2 : ∀ i, i < m → A .get es (ix i) = some (encEv (ev i))) (h3 : ∀ i, i < m → A .ar .add .i64 (ix i) 1 = ix (i + 1))
    (h4 : ∀ i, i < m → (A .cmp .neq (ev i).k 2 = true ∧ A .ar .add .i64 (ct i) 1 = ct (i + 1)) ∨ (A .cmp .neq (ev i).k 2 = false ∧ ct i = ct (i + 1)))
    (hmx : A .mx most 0 = mx)
    (h5 : ∀ i, i < m → (A .cmp .neq (ev i).k 2 = true ∧ A .cmp .gtr (dn i) mx = true ∧ A .ar .sub .i64 (dn i) 1 = dn (i + 1) ∧ call 23 [.agg [.iv (.arr 64 (Y i))], dotF (ev i).r (ev i).n] [] = some (.agg [.iv (.arr 64 (Y (i + 1)))], []) ∧ out i = out (i + 1) ∧ nn i = nn (i + 1)) ∨
      ((A .cmp .neq (ev i).k 2 = false ∨ A .cmp .neq (ev i).k 2 = true ∧ A .cmp .gtr (dn i) mx = false) ∧ dn i = dn (i + 1) ∧ Y i = Y (i + 1) ∧ call 97 [evF (ev i)] [] = some (evC (ev i) (L i), [.arr false false 2 (ev i).g]) ∧
        A .seg (ev i).g 0 (L i) = (ev i).g ∧ A .apo 96 0 (nn i) (out i) [cells (ev i) (A .isE (ev i).g) (ev i).g] = some (true, out (i + 1)) ∧ A .ln (out (i + 1)) = nn (i + 1))) :
    wpV A call (iterN n) v55.body ⟨0, padE 60 [pastF fl es X, i64 most], []⟩ (finQ A v55 (.agg [.slo 0 0 (nn m), .iv (.arr 64 (Y m))], [.arr false false 8 (out m)])) := by
  apply wpV_seq; refine wpV_of (by ((conv => lhs; cbv); (try (with_reducible rfl)))) ?_
  apply wpV_seq; refine wpV_of (by ((conv => lhs; cbv); (try (with_reducible rfl)))) ?_
  apply wpV_seq; apply wpV_seq; refine wpV_of (by ((conv => lhs; cbv); (try (with_reducible rfl)))) ?_
  apply wpV_block
  refine wpV_loop m (fun i s => s = N55a fl es X (A .len es) most (ct i) (ix i)) hn (by ((conv => lhs; cbv); (try (with_reducible rfl)))) (by rw [hc0, hi0]; rfl) ?_
  · rintro i hi s rfl
    by_cases him : i < m
    · rcases h4 i him with ⟨b1, b2⟩ | ⟨b1, b2⟩
      · refine wpV_of (by ((conv => lhs; cbv); (repeat ((first | rewrite [h1 i him] | rewrite [h2 i him] | rewrite [b1]); (try (conv => lhs; cbv)))); (try (with_reducible rfl)))) ?_
        refine headQ_of (by ((conv => lhs; cbv); (try (with_reducible rfl)))) ?_
        exact ⟨him, by rw [h3 i him, b2]; rfl⟩
      · refine wpV_of (by ((conv => lhs; cbv); (repeat ((first | rewrite [h1 i him] | rewrite [h2 i him] | rewrite [b1]); (try (conv => lhs; cbv)))); (try (with_reducible rfl)))) ?_
        refine headQ_of (by ((conv => lhs; cbv); (try (with_reducible rfl)))) ?_
        exact ⟨him, by rw [h3 i him, b2]; rfl⟩
    · obtain rfl : i = m := by omega
      refine wpV_of (by ((conv => lhs; cbv); (repeat ((first | rewrite [h1']); (try (conv => lhs; cbv)))); (try (with_reducible rfl)))) ?_
      apply wpV_seq; refine wpV_of (by ((conv => lhs; cbv); (try (with_reducible rfl)))) ?_
      apply wpV_seq; apply wpV_seq; refine wpV_of (by ((conv => lhs; cbv); (try (with_reducible rfl)))) ?_
      apply wpV_block
      refine wpV_loop i (fun j s => s = N55b fl es (out j) (Y j) (A .len es) most (dn j) (ix j) (nn j)) hn (by ((conv => lhs; cbv); (try (with_reducible rfl)))) (by rw [hd0, hi0, ho0, hn0, hY]; rfl) ?_
      rintro j hj s rfl
      by_cases hji : j < i
      · rcases h5 j hji with ⟨b1, b2, b3, b4, b5, b6⟩ | ⟨b1, b2, b3, b4, b5, b6, b7⟩
        · refine wpV_of (by ((conv => lhs; cbv); (repeat ((first | rewrite [h1 j hji] | rewrite [h2 j hji] | rewrite [b1] | rewrite [hmx] | rewrite [b2] | rewrite [b4]); (try (conv => lhs; cbv)))); (try (with_reducible rfl)))) ?_
          refine headQ_of (by ((conv => lhs; cbv); (try (with_reducible rfl)))) ?_
          exact ⟨hji, by rw [h3 j hji, b3, b5, b6]; rfl⟩
        · have h2j := h2 j hji
          obtain ⟨e, he⟩ : ∃ e, e = ev j := ⟨_, rfl⟩
          rw [← he] at b1 b4 b5 b6 h2j
          obtain ⟨er, en, et, ek, ed, ef, ex, eb, eg⟩ := e
          dsimp only [evF, cells, evC, encEv] at b1 b4 b5 b6 h2j
          rcases b1 with b1 | ⟨b1, b1'⟩
          · refine wpV_of (by ((conv => lhs; cbv); (repeat ((first | rewrite [h1 j hji] | rewrite [h2j] | rewrite [b1] | rewrite [b4] | rewrite [b5] | rewrite [b6]); (try (conv => lhs; cbv)))); (try (with_reducible rfl)))) ?_
            refine headQ_of (by ((conv => lhs; cbv); (try (with_reducible rfl)))) ?_
            exact ⟨hji, by rw [h3 j hji, b2, b3, b7]; rfl⟩
          · refine wpV_of (by ((conv => lhs; cbv); (repeat ((first | rewrite [h1 j hji] | rewrite [h2j] | rewrite [b1] | rewrite [hmx] | rewrite [b1'] | rewrite [b4] | rewrite [b5] | rewrite [b6]); (try (conv => lhs; cbv)))); (try (with_reducible rfl)))) ?_
            refine headQ_of (by ((conv => lhs; cbv); (try (with_reducible rfl)))) ?_
            exact ⟨hji, by rw [h3 j hji, b2, b3, b7]; rfl⟩
      · obtain rfl : j = i := by omega
        refine wpV_of (by ((conv => lhs; cbv); (repeat ((first | rewrite [h1']); (try (conv => lhs; cbv)))); (try (with_reducible rfl)))) ?_
        show wpV _ _ _ _ _ _
        refine wpV_of (by ((conv => lhs; cbv); (try (with_reducible rfl)))) ?_
        (show finV _ _ _ = some _; ((conv => lhs; cbv); (try (with_reducible rfl))); (try rfl))
end Go.Proofs.Ytomchclmnmhjaaa
