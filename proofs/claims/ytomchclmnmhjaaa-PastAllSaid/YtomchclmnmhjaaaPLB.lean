/- 'PastAll': the statement's own code. -/
import Derived.Test.YtomchclmnmhjaaaPLA
set_option linter.unusedSimpArgs false
set_option linter.unusedVariables false
set_option maxRecDepth 100000
set_option maxHeartbeats 8000000
set_option cbv.maxSteps 10000000
namespace Go.Proofs.Ytomchclmnmhjaaa
open Go GoV

theorem p53d (f1 : Bool) (l : List Ev) (hl : l.length ≤ 100000000000000000) : ∃ b : Bool, (b = true → l.length ≤ 80) ∧ Pl 53 [.one (.iv (.sl true 1 [[.sl f1 8 (l.map encEv)]]))] (bl b) [] := by
  have : ∃ r, (∃ b : Bool, (b = true → l.length ≤ 80) ∧ r = (bl b, ([] : List Blk))) ∧ Plays (lookT tab) (fun _ => clonePr clones) 53 [.one (.iv (.sl true 1 [[.sl f1 8 (l.map encEv)]]))] [] r := by
    refine Plays.wpE (vf := v53) rfl rfl ⟨l.length + 3, fun A call hA _ => ?_⟩
    subst hA
    obtain ⟨acc, hacc⟩ : ∃ acc : Nat → Int, acc = fun i => if i = 0 then 0 else min (l.length : Int) 100 := ⟨_, rfl⟩
    refine wpV_mono (w53x real call (l.length + 3) l.length 1 (by omega) (by omega) [[.sl f1 8 (l.map encEv)]] (fun i => l.map encEv) (fun i => f1) (fun i => l.length) (fun i hi => Nat.le_refl _)
      (fun i j => l.getD j d0) (fun i => (i : Int)) acc rfl (by rw [hacc]; rfl) (fun i hi => ?_) ?_ (fun i hi => ?_) (fun i hi j hj => ?_) (fun i hi => ?_) (fun i hi j hj => ?_) (fun i hi => inc_real (by omega)) (fun i hi => ?_)) ?_
    · rw [lss_real, len_real]; simp; omega
    · rw [lss_real, len_real]; simp
    · obtain rfl : i = 0 := by omega
      rfl
    · rw [lss_real, len_real]
      simpa using hj
    · rw [lss_real, len_real]
      simp
    · rw [get_ev hj, getD_ev hj]
    · rw [mi_real, len_real]
      obtain rfl : i = 0 := by omega
      simp only [hacc, if_true, List.length_map]
      rw [add_real (by unfold inI; omega)]; simp
    · rintro ex s ⟨r, ⟨b, hb, rfl⟩, hf⟩
      refine ⟨_, ⟨b, fun h => ?_, rfl⟩, hf⟩
      have h0 := hb h 0 (by omega)
      rw [gtr_real, hacc] at h0
      simp at h0
      omega
  obtain ⟨r, ⟨b, hb, rfl⟩, h⟩ := this
  exact ⟨b, hb, h⟩


theorem w13 (A : Ar) (call : CallT) (n m : Nat) (hn : m < n) (es : List (List IV)) (num : Int) (few : Bool) (ev od : Nat → Ev) (ix rm : Nat → Int) (hz : ix 0 = 0) (tt vv hh : Nat → Bool) (out oa : Nat → List (List IV)) (na nn : Nat → Nat) (Y : Nat → List IV) (vs ws us Z : List IV) (oc og : List (List IV)) (nc ng : Nat) (hn2 : ng < n) (sm ac : Nat → Nat → Bool)
    (k53 : call 53 [.one (.iv (.sl true 1 [[.sl false 8 es]]))] [] = some (bl few, [])) (k54 : call 54 [] [] = some (bl true, []))
    (o0 : out 0 = []) (n0 : nn 0 = 0) (Y0 : Y 0 = List.replicate 64 (.int .i64 0))
    (h1 : ∀ i, i < m → A .cmp .lss (ix i) (A .len es) = true) (h1' : A .cmp .lss (ix m) (A .len es) = false) (h2 : ∀ i, i < m → A .get es (ix i) = some (encEv (ev i))) (h3 : ∀ i, i < m ∨ i < ng → A .ar .add .i64 (ix i) 1 = ix (i + 1))
    (sg : ∀ i, A .seg (out i) 0 (nn i) = out i) (sga : ∀ i, A .seg (oa i) 0 (na i) = oa i)
    (r1 : ∀ i, i < m → A .ar .rem .i64 (ix i) 3 = rm i) (r2 : ∀ i, i < m → A .cmp .eql (rm i) 2 = tt i) (nz3 : A .nz 3 = true)
    (k59 : few = true → ∀ i, i < m → call 59 [pastF (A .isE (out i)) (out i) (Y i), evF (ev i)] [] = some (.agg [.slo 0 0 (na i), .iv (.arr 64 (Y i))], [.arr true false 8 (oa i)]))
    (no : ∀ i, i < m → tt i = false → oa i = out (i + 1) ∧ na i = nn (i + 1) ∧ Y i = Y (i + 1))
    (k55 : few = true → ∀ i, i < m → tt i = true → call 55 [pastF (A .isE (oa i)) (oa i) (Y i), i64 num] [] = some (.agg [.slo 0 0 (nn (i + 1)), .iv (.arr 64 (Y (i + 1)))], [.arr false false 8 (out (i + 1))]))
    (k56 : few = true → call 56 [pastF (A .isE (out m)) (out m) (Y m), .agg [.iv (.arr 64 vs)]] [] = some (.agg [.slo 0 0 nc, .iv (.arr 64 Z)], [.arr false false 8 oc]))
    (sgc : A .seg oc 0 nc = oc)
    (k29 : few = true → call 29 [.agg [.iv (.arr 64 ws)], .agg [.iv (.arr 64 Z)]] [] = some (.agg [.iv (.arr 64 us)], []))
    (k63 : few = true → call 63 [pastF (A .isE oc) oc Z, .agg [.iv (.arr 64 us)], i64 1000] [] = some (sinceF ng, [.arr false false 8 og]))
    (k19 : few = true → ∀ i, i < m → call 19 [dotF (ev i).r (ev i).n] [] = some (bl (vv i), []))
    (k22 : few = true → ∀ i, i < m → call 22 [.agg [.iv (.arr 64 us)], dotF (ev i).r (ev i).n] [] = some (bl (hh i), []))
    (j1 : ∀ j, j < ng → A .cmp .lss (ix j) (A .ofN ng) = true) (j1' : A .cmp .lss (ix ng) (A .ofN ng) = false) (j2 : ∀ j, j < ng → A .at_ (ix j) ng = some j) (j3 : ∀ j, j < ng → A .getN og j = some (encEv (od j)))
    (j4 : ∀ i, i < m → ∀ j, j < ng → A .eqv [.int, .int] [.int .i64 (od j).r, .int .i64 (od j).n] [.int .i64 (ev i).r, .int .i64 (ev i).n] = some (sm i j))
    (a0 : ∀ i, ac i 0 = false) (a1 : ∀ i j, j < ng → ac i (j + 1) = bif ac i j then true else sm i j) (a2 : few = true → ∀ i, i < m → vv i = true → hh i = false → ac i ng = true) :
    wpV A call (iterN n) v13.body ⟨0, padE 93 [.one (.iv (.sl false 8 es)), i64 num, .agg [.iv (.arr 64 vs)], .agg [.iv (.arr 64 ws)]], []⟩ (finQ A v13 (bl true, [])) := by
  apply wpV_seq; refine wpV_of (by ((conv => lhs; cbv); (try (with_reducible rfl)))) ?_
  cases few with
  | false =>
    apply wpV_seq
    refine wpV_of (by ((conv => lhs; cbv); (repeat ((first | rewrite [k53] | rewrite [k54]); (try (conv => lhs; cbv)))); (try (with_reducible rfl)))) ?_
    (show finV _ _ _ = some _; ((conv => lhs; cbv); (try (with_reducible rfl))); (try rfl))
  | true =>
    apply wpV_seq
    refine wpV_of (by ((conv => lhs; cbv); (repeat ((first | rewrite [k53]); (try (conv => lhs; cbv)))); (try (with_reducible rfl)))) ?_
    have k59 := k59 rfl
    have k55 := k55 rfl
    have k56 := k56 rfl
    have k29 := k29 rfl
    have k63 := k63 rfl
    have k19 := k19 rfl
    have k22 := k22 rfl
    have a2 := a2 rfl
    apply wpV_seq; refine wpV_of (by ((conv => lhs; cbv); (try (with_reducible rfl)))) ?_
    apply wpV_seq; apply wpV_seq; refine wpV_of (by ((conv => lhs; cbv); (try (with_reducible rfl)))) ?_
    apply wpV_block
    refine wpV_loop m (fun i s => ∃ z, s = ⟨0, (.one (.iv (.sl false 8 es)) :: i64 num :: u :: u :: u :: u :: .one (.ptr 0 0) :: .one (.ptr 1 0) :: u :: .one (.ptr 2 0) :: u :: u :: u :: u :: u :: u :: u :: u :: u :: u :: u :: u :: u :: u :: u :: u :: .one (.iv (.sl false 8 es)) :: i64 (A .len es) :: i64 (ix i) :: u :: u :: u :: u :: u :: u :: u :: u :: u :: u :: u :: u :: u :: u :: u :: u :: u :: u :: u :: u :: u :: u :: u :: u :: u :: u :: u :: u :: u :: u :: u :: u :: u :: u :: u :: u :: u :: u :: u :: u :: u :: u :: u :: u :: u :: u :: u :: u :: u :: u :: u :: u :: u :: u :: u :: u :: u :: u :: u :: u :: u :: u :: u :: u :: []),
      [.var false [.iv (.arr 64 vs)], .var false [.iv (.arr 64 ws)], .var false [.slo 3 0 (nn i), .iv (.arr 64 (Y i))], .arr z false 8 (out i)]⟩) hn (by ((conv => lhs; cbv); (try (with_reducible rfl)))) ⟨false, by rw [hz, o0, n0, Y0]; rfl⟩ ?_
    rintro i hi s ⟨z, rfl⟩
    by_cases him : i < m
    · have g := h2 i him
      have k59i := k59 i him
      have k55i := k55 i him
      have noi := no i him
      have r2i := r2 i him
      have sgi := sg i
      have sgai := sga i
      generalize ev i = x at *
      obtain ⟨er, en, et, ek, ed, ef, ex, eb, eg⟩ := x
      dsimp only [evF, encEv] at g k59i
      cases hc : tt i with
      | false =>
        rw [hc] at r2i
        obtain ⟨b1, b2, b3⟩ := noi hc
        rw [b1, b2] at k59i
        refine wpV_of (by ((conv => lhs; cbv); (repeat ((first | rewrite [h1 i him] | rewrite [g] | rewrite [sgi] | rewrite [k59i] | rewrite [nz3] | rewrite [r1 i him] | rewrite [r2i]); (try (conv => lhs; cbv)))); (try (with_reducible rfl)))) ?_
        refine headQ_of (by ((conv => lhs; cbv); (try (with_reducible rfl)))) ?_
        exact ⟨him, true, (by ((rw [h3 i (by omega), ← b3]) <;> rfl))⟩
      | true =>
        rw [hc] at r2i
        have k55i := k55i hc
        refine wpV_of (by ((conv => lhs; cbv); (repeat ((first | rewrite [h1 i him] | rewrite [g] | rewrite [sgi] | rewrite [k59i] | rewrite [nz3] | rewrite [r1 i him] | rewrite [r2i] | rewrite [sgai] | rewrite [k55i]); (try (conv => lhs; cbv)))); (try (with_reducible rfl)))) ?_
        refine headQ_of (by ((conv => lhs; cbv); (try (with_reducible rfl)))) ?_
        exact ⟨him, false, (by ((rw [h3 i (by omega)]) <;> rfl))⟩
    · obtain rfl : i = m := by omega
      refine wpV_of (by ((conv => lhs; cbv); (repeat ((first | rewrite [h1']); (try (conv => lhs; cbv)))); (try (with_reducible rfl)))) ?_
      show wpV _ _ _ _ _ _
      have sgi := sg i
      apply wpV_seq; refine wpV_of (by ((conv => lhs; cbv); (repeat ((first | rewrite [sgi] | rewrite [k56]); (try (conv => lhs; cbv)))); (try (with_reducible rfl)))) ?_
      apply wpV_seq; refine wpV_of (by ((conv => lhs; cbv); (repeat ((first | rewrite [k29]); (try (conv => lhs; cbv)))); (try (with_reducible rfl)))) ?_
      apply wpV_seq; refine wpV_of (by ((conv => lhs; cbv); (repeat ((first | rewrite [sgc] | rewrite [k63]); (try (conv => lhs; cbv)))); (try (with_reducible rfl)))) ?_
      apply wpV_seq; refine wpV_of (by ((conv => lhs; cbv); (try (with_reducible rfl)))) ?_
      apply wpV_seq; apply wpV_seq; refine wpV_of (by ((conv => lhs; cbv); (try (with_reducible rfl)))) ?_
      apply wpV_block
      refine wpV_loop i (fun k s => s = ⟨0, (u :: u :: u :: u :: u :: u :: u :: u :: u :: u :: u :: u :: .one (.ptr 0 0) :: .one (.slo 1 0 ng) :: u :: u :: u :: u :: u :: u :: u :: u :: u :: u :: u :: u :: u :: u :: u :: u :: u :: u :: u :: u :: u :: u :: u :: u :: u :: u :: u :: u :: u :: u :: u :: u :: u :: u :: u :: u :: u :: u :: u :: u :: u :: u :: u :: u :: .one (.iv (.sl false 8 es)) :: i64 (A .len es) :: i64 (ix k) :: u :: u :: u :: u :: u :: u :: u :: u :: u :: u :: u :: u :: u :: u :: u :: u :: u :: u :: u :: u :: u :: u :: u :: u :: u :: u :: u :: u :: u :: u :: u :: u :: []),
        [.var false [.iv (.arr 64 us)], .arr false false 8 og]⟩) hn (by ((conv => lhs; cbv); (try (with_reducible rfl)))) (by rw [hz]) ?_
      rintro k hk s rfl
      by_cases hkm : k < i
      · have g := h2 k hkm
        have k19k := k19 k hkm
        have k22k := k22 k hkm
        have j4k := j4 k hkm
        have a2k := a2 k hkm
        generalize ev k = x at *
        obtain ⟨er, en, et, ek, ed, ef, ex, eb, eg⟩ := x
        dsimp only [encEv] at g k19k k22k j4k
        generalize vv k = v1 at *
        generalize hh k = h1k at *
        apply wpV_seq; refine wpV_of (by ((conv => lhs; cbv); (try (with_reducible rfl)))) ?_
        apply wpV_seq; refine wpV_of (by ((conv => lhs; cbv); (repeat ((first | rewrite [h1 k hkm]); (try (conv => lhs; cbv)))); (try (with_reducible rfl)))) ?_
        apply wpV_seq; apply wpV_block
        apply wpV_seq; refine wpV_of (by ((conv => lhs; cbv); (repeat ((first | rewrite [g]); (try (conv => lhs; cbv)))); (try (with_reducible rfl)))) ?_
        cases v1 with
        | false =>
          refine wpV_of (by ((conv => lhs; cbv); (repeat ((first | rewrite [k19k]); (try (conv => lhs; cbv)))); (try (with_reducible rfl)))) ?_
          show wpV _ _ _ _ _ _
          refine wpV_of (by ((conv => lhs; cbv); (try (with_reducible rfl)))) ?_
          refine headQ_of (by ((conv => lhs; cbv); (try (with_reducible rfl)))) ?_
          exact ⟨hkm, (by ((rw [h3 k (by omega)]) <;> rfl))⟩
        | true =>
          cases h1k with
          | true =>
            refine wpV_of (by ((conv => lhs; cbv); (repeat ((first | rewrite [k19k] | rewrite [k22k]); (try (conv => lhs; cbv)))); (try (with_reducible rfl)))) ?_
            show wpV _ _ _ _ _ _
            refine wpV_of (by ((conv => lhs; cbv); (try (with_reducible rfl)))) ?_
            refine headQ_of (by ((conv => lhs; cbv); (try (with_reducible rfl)))) ?_
            exact ⟨hkm, (by ((rw [h3 k (by omega)]) <;> rfl))⟩
          | false =>
            have a2k := a2k rfl rfl
            apply wpV_seq; refine wpV_of (by ((conv => lhs; cbv); (repeat ((first | rewrite [k19k] | rewrite [k22k]); (try (conv => lhs; cbv)))); (try (with_reducible rfl)))) ?_
            apply wpV_seq; refine wpV_of (by ((conv => lhs; cbv); (try (with_reducible rfl)))) ?_
            apply wpV_seq; apply wpV_seq; refine wpV_of (by ((conv => lhs; cbv); (try (with_reducible rfl)))) ?_
            apply wpV_block
            refine wpV_loop ng (fun j s => s = ⟨0, (u :: u :: u :: u :: u :: u :: u :: u :: u :: u :: u :: u :: .one (.ptr 0 0) :: .one (.slo 1 0 ng) :: u :: u :: .one (.ptr 2 0) :: bl (ac k j) :: u :: u :: u :: u :: u :: u :: u :: u :: u :: u :: u :: u :: u :: u :: u :: u :: u :: u :: u :: u :: u :: u :: u :: u :: u :: u :: u :: u :: u :: u :: u :: u :: u :: u :: u :: u :: u :: u :: u :: u :: .one (.iv (.sl false 8 es)) :: i64 (A .len es) :: i64 (ix k) :: u :: u :: u :: u :: u :: u :: u :: u :: u :: u :: u :: u :: u :: .one (.slo 1 0 ng) :: i64 (A .ofN ng) :: i64 (ix j) :: u :: u :: u :: u :: u :: u :: u :: u :: u :: u :: u :: u :: u :: u :: u :: u :: []),
              [.var false [.iv (.arr 64 us)], .arr false false 8 og, .var false (evL ⟨er, en, et, ek, ed, ef, ex, eb, eg⟩)]⟩) hn2 (by ((conv => lhs; cbv); (try (with_reducible rfl)))) (by rw [hz, a0]) ?_
            rintro j hj s rfl
            by_cases hjm : j < ng
            · have o := j3 j hjm
              have e4 := j4k j hjm
              have a1j := a1 k j hjm
              generalize od j = y at *
              obtain ⟨yr, yn, yt, yk, yd, yf, yx, yb, yg⟩ := y
              dsimp only [encEv] at o e4
              cases hac : ac k j with
              | true =>
                rw [hac] at a1j
                refine wpV_of (by ((conv => lhs; cbv); (repeat ((first | rewrite [j1 j hjm] | rewrite [j2 j hjm] | rewrite [o]); (try (conv => lhs; cbv)))); (try (with_reducible rfl)))) ?_
                refine headQ_of (by ((conv => lhs; cbv); (try (with_reducible rfl)))) ?_
                exact ⟨hjm, (by ((rw [h3 j (by omega), a1j]) <;> rfl))⟩
              | false =>
                rw [hac] at a1j
                refine wpV_of (by ((conv => lhs; cbv); (repeat ((first | rewrite [j1 j hjm] | rewrite [j2 j hjm] | rewrite [o] | rewrite [e4]); (try (conv => lhs; cbv)))); (try (with_reducible rfl)))) ?_
                refine headQ_of (by ((conv => lhs; cbv); (try (with_reducible rfl)))) ?_
                exact ⟨hjm, (by ((rw [h3 j (by omega), a1j]) <;> rfl))⟩
            · obtain rfl : j = ng := by omega
              refine wpV_of (by ((conv => lhs; cbv); (repeat ((first | rewrite [j1']); (try (conv => lhs; cbv)))); (try (with_reducible rfl)))) ?_
              show wpV _ _ _ _ _ _
              refine wpV_of (by ((conv => lhs; cbv); (repeat ((first | rewrite [a2k]); (try (conv => lhs; cbv)))); (try (with_reducible rfl)))) ?_
              show wpV _ _ _ _ _ _
              refine wpV_of (by ((conv => lhs; cbv); (try (with_reducible rfl)))) ?_
              refine headQ_of (by ((conv => lhs; cbv); (try (with_reducible rfl)))) ?_
              exact ⟨hkm, (by ((rw [h3 k (by omega)]) <;> rfl))⟩
      · obtain rfl : k = i := by omega
        refine wpV_of (by ((conv => lhs; cbv); (repeat ((first | rewrite [h1']); (try (conv => lhs; cbv)))); (try (with_reducible rfl)))) ?_
        show wpV _ _ _ _ _ _
        refine wpV_of (by ((conv => lhs; cbv); (repeat ((first | rewrite [k54]); (try (conv => lhs; cbv)))); (try (with_reducible rfl)))) ?_
        (show finV _ _ _ = some _; ((conv => lhs; cbv); (try (with_reducible rfl))); (try rfl))
end Go.Proofs.Ytomchclmnmhjaaa
