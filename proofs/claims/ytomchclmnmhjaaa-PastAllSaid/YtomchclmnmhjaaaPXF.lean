/- Events put to others, and copies of them: as equations. -/
import Derived.Test.YtomchclmnmhjaaaPXV
set_option linter.unusedSimpArgs false
set_option linter.unusedVariables false
set_option maxRecDepth 100000
set_option maxHeartbeats 1000000
namespace Go.Proofs.Ytomchclmnmhjaaa
open Go GoV

/-- What a count from 0 to m asks of numbers. -/
structure Cnt (A : Ar) (ix : Nat → Int) (L : Int) (m : Nat) : Prop where
  lt : ∀ i, i < m → A .cmp .lss (ix i) L = true
  ge : A .cmp .lss (ix m) L = false
  inc : ∀ i, i < m → A .ar .add .i64 (ix i) 1 = ix (i + 1)
theorem ix_some : ∃ ix : Nat → Int, (∀ i, ix i = (i : Int)) ∧ ix 0 = 0 := ⟨fun i => (i : Int), fun _ => rfl, rfl⟩
theorem cnt_of {A : Ar} (hA : A = real) {ix : Nat → Int} (hix : ∀ i, ix i = (i : Int)) (es : List (List IV)) (h : es.length ≤ 1000000000000000000) : Cnt A ix (A .len es) es.length := by
  subst hA
  refine ⟨fun i hi => ?_, ?_, fun i hi => ?_⟩
  · rw [hix, lss_real, len_real]; simpa using hi
  · rw [hix, lss_real, len_real]; simp
  · rw [hix, hix]; exact inc_real (by omega)
theorem evs_of {A : Ar} (hA : A = real) {ix : Nat → Int} (hix : ∀ i, ix i = (i : Int)) (l : List Ev) (h : l.length ≤ 1000000000000000000) :
    ∃ es, l.map encEv = es ∧ Cnt A ix (A .len es) l.length ∧ ∀ i (hi : i < l.length), A .get es (ix i) = some (encEv l[i]) := by
  refine ⟨l.map encEv, rfl, ?_, fun i hi => ?_⟩
  · have := cnt_of hA hix (l.map encEv) (by simpa using h)
    rwa [List.length_map] at this
  · subst hA
    rw [hix, get_ev hi]

/-! ### How many are no removals -/
theorem p102 (fl : Bool) (l : List Ev) (hl : l.length ≤ 1000000000000000000) : Pl 102 [.one (.iv (.sl fl 8 (l.map encEv)))] (i64 (puts l)) [] := by
  refine Plays.wp (vf := v102) rfl rfl ⟨l.length + 1, fun A call hA hcall => ?_⟩
  obtain ⟨ix, hix, hz⟩ := ix_some
  obtain ⟨es, hes, C, G⟩ := evs_of hA hix l hl
  rw [hes]
  obtain ⟨ct, hct⟩ : ∃ ct : Nat → Int, ∀ i, ct i = puts (l.take i) := ⟨_, fun _ => rfl⟩
  rw [show (puts l : Int) = ct l.length by rw [hct, List.take_length]]
  apply wpV_seq; refine wpV_of (by ((conv => lhs; cbv); (try (with_reducible rfl)))) ?_
  apply wpV_seq; refine wpV_of (by ((conv => lhs; cbv); (try (with_reducible rfl)))) ?_
  apply wpV_seq; apply wpV_seq; refine wpV_of (by ((conv => lhs; cbv); (try (with_reducible rfl)))) ?_
  apply wpV_block
  refine wpV_loop l.length (fun i s => s = ⟨0, [u, u, u, i64 (ct i), u, u, .one (.iv (.sl fl 8 es)), i64 (A .len es), i64 (ix i), u, u, u, u, u, u, u, u, u, u], []⟩) (by omega) (by ((conv => lhs; cbv); (try (with_reducible rfl)))) (by rw [hz, hct]; rfl) ?_
  rintro i hi s rfl
  by_cases him : i < l.length
  · have g := G i him
    have h1 := puts_take him
    have h2 : puts (l.take i) ≤ (l.take i).length := List.countP_le_length
    simp only [List.length_take] at h2
    generalize l[i] = x at g h1
    have hk : (A .cmp .neq x.k 2 = true ∧ A .ar .add .i64 (ct i) 1 = ct (i + 1)) ∨ (A .cmp .neq x.k 2 = false ∧ ct i = ct (i + 1)) := by
      rw [hA, neq_real, hct, hct]
      by_cases hk : x.k ≠ 2
      · rw [if_pos hk] at h1
        exact .inl ⟨decide_eq_true hk, by rw [h1]; exact inc_real (by omega)⟩
      · rw [if_neg hk] at h1
        exact .inr ⟨decide_eq_false hk, by rw [h1]; simp⟩
    rcases hk with ⟨b1, b2⟩ | ⟨b1, b2⟩
    · refine wpV_of (by ((conv => lhs; cbv); (repeat ((first | rewrite [C.lt i him] | rewrite [g] | rewrite [b1]); (try (conv => lhs; cbv)))); (try (with_reducible rfl)))) ?_
      refine headQ_of (by ((conv => lhs; cbv); (try (with_reducible rfl)))) ?_
      exact ⟨him, (by ((rw [C.inc i him, b2]) <;> rfl))⟩
    · refine wpV_of (by ((conv => lhs; cbv); (repeat ((first | rewrite [C.lt i him] | rewrite [g] | rewrite [b1]); (try (conv => lhs; cbv)))); (try (with_reducible rfl)))) ?_
      refine headQ_of (by ((conv => lhs; cbv); (try (with_reducible rfl)))) ?_
      exact ⟨him, (by ((rw [C.inc i him, b2]) <;> rfl))⟩
  · obtain rfl : i = l.length := by omega
    refine wpV_of (by ((conv => lhs; cbv); (repeat ((first | rewrite [C.ge]); (try (conv => lhs; cbv)))); (try (with_reducible rfl)))) ?_
    show wpV _ _ _ _ _ _
    refine wpV_of (by ((conv => lhs; cbv); (try (with_reducible rfl)))) ?_
    (show finV _ _ _ = some _; ((conv => lhs; cbv); (try (with_reducible rfl))); (try rfl))

/-! ### Copies -/
theorem room_val : room = 211106232532992 := rfl
theorem apo_room {b : Nat} {es : List (List IV)} {c : List IV} (h : (es.length + 1) * b ≤ room) : real .apo b 0 es.length es [c] = some (true, es ++ [c]) := by
  rw [real_apo]
  simp [rApo, h]
theorem p98 (fl : Bool) (l : List Ev) (hl : l.length * 96 ≤ room) (hg : ∀ e, e ∈ l → e.g.length * 16 ≤ reachBytes) : Pl 98 [.one (.iv (.sl fl 8 (l.map encEv)))] (.one (.slo 0 0 l.length)) [.arr false false 8 ((l.map clE).map encEv)] := by
  have hrm := room_val
  obtain ⟨k1, hk1⟩ := Plays.all pr_mono (T := lookT tab) (pr := fun _ => clonePr clones) (f := 97) (vs := fun i => [evF (l.getD i d0)]) (bs := fun _ => []) (r := fun i => (evC (l.getD i d0) (l.getD i d0).g.length, [.arr false false 2 (l.getD i d0).g])) (m := l.length)
    (fun i hi => by
      have := hg l[i] (List.getElem_mem hi)
      rw [getD_ev hi]
      exact p97 _ this)
  refine Plays.wp (vf := v98) rfl rfl ⟨max k1 (l.length + 1), fun A call hA hcall => ?_⟩
  have h97 := hk1 (max k1 (l.length + 1)) (by omega)
  rw [← hcall] at h97
  obtain ⟨ix, hix, hz⟩ := ix_some
  obtain ⟨es, hes, C, G⟩ := evs_of hA hix l (by omega)
  rw [hes]
  obtain ⟨out, hout⟩ : ∃ out : Nat → List (List IV), ∀ i, out i = ((l.take i).map clE).map encEv := ⟨_, fun _ => rfl⟩
  obtain ⟨nn, hnn⟩ : ∃ nn : Nat → Nat, ∀ i, nn i = (l.take i).length := ⟨_, fun _ => rfl⟩
  rw [show (l.map clE).map encEv = out l.length by rw [hout, List.take_length], show FV.one (.slo 0 0 l.length) = .one (.slo 0 0 (nn l.length)) by rw [hnn, List.take_length]]
  apply wpV_seq; refine wpV_of (by ((conv => lhs; cbv); (try (with_reducible rfl)))) ?_
  apply wpV_seq; refine wpV_of (by ((conv => lhs; cbv); (try (with_reducible rfl)))) ?_
  apply wpV_seq; apply wpV_seq; refine wpV_of (by ((conv => lhs; cbv); (try (with_reducible rfl)))) ?_
  apply wpV_block
  refine wpV_loop l.length (fun i s => s = ⟨0, [u, u, u, .one (.slo 0 0 (nn i)), u, u, .one (.iv (.sl fl 8 es)), i64 (A .len es), i64 (ix i), u, u, u, u, u, u, u, u, u, u], [.arr false false 8 (out i)]⟩) (by omega) (by ((conv => lhs; cbv); (try (with_reducible rfl)))) (by rw [hz, hout, hnn]; rfl) ?_
  rintro i hi s rfl
  by_cases him : i < l.length
  · have g := G i him
    have h97i := h97 i him
    rw [getD_ev him] at h97i
    have hgl := hg l[i] (List.getElem_mem him)
    have ha : A .seg l[i].g 0 l[i].g.length = l[i].g ∧ A .apo 96 0 (nn i) (out i) [cells l[i] (A .isE l[i].g) l[i].g] = some (true, out (i + 1)) ∧ A .ln (out (i + 1)) = nn (i + 1) := by
      rw [hA, hout, hout, hnn, hnn]
      refine ⟨seg_all _, ?_, by rw [ln_real]; simp⟩
      have := apo_room (b := 96) (es := ((l.take i).map clE).map encEv) (c := cells l[i] (real .isE l[i].g) l[i].g) (by simp only [List.length_map, List.length_take]; omega)
      simp only [List.length_map] at this
      rw [this, List.take_succ_eq_append_getElem him]
      simp only [List.map_append, List.map_cons, List.map_nil]
      rfl
    obtain ⟨a1, a2, a3⟩ := ha
    generalize l[i] = x at *
    obtain ⟨L, hL⟩ : ∃ L, x.g.length = L := ⟨_, rfl⟩
    rw [hL] at h97i a1
    obtain ⟨er, en, et, ek, ed, ef, ex, eb, eg⟩ := x
    dsimp only [evF, cells, evC, encEv] at g h97i a1 a2 a3
    refine wpV_of (by ((conv => lhs; cbv); (repeat ((first | rewrite [C.lt i him] | rewrite [g] | rewrite [h97i] | rewrite [a1] | rewrite [a2] | rewrite [a3]); (try (conv => lhs; cbv)))); (try (with_reducible rfl)))) ?_
    refine headQ_of (by ((conv => lhs; cbv); (try (with_reducible rfl)))) ?_
    exact ⟨him, (by ((rw [C.inc i him, a3]) <;> rfl))⟩
  · obtain rfl : i = l.length := by omega
    refine wpV_of (by ((conv => lhs; cbv); (repeat ((first | rewrite [C.ge]); (try (conv => lhs; cbv)))); (try (with_reducible rfl)))) ?_
    show wpV _ _ _ _ _ _
    refine wpV_of (by ((conv => lhs; cbv); (try (with_reducible rfl)))) ?_
    (show finV _ _ _ = some _; ((conv => lhs; cbv); (try (with_reducible rfl))); (try rfl))

/-! ### Is there one of a dot? -/
abbrev evL (e : Ev) : List LV := [.iv (.int .i64 e.r), .iv (.int .i64 e.n), .iv (.int .i64 e.t), .iv (.int .i64 e.k), .iv (.str e.d), .iv (.int .i64 e.f), .iv (.str e.x), .iv (.sl e.b 2 e.g)]
abbrev Pls (f : Nat) (vs : List FV) (bs : List Blk) (v : FV) (os : List Blk) : Prop := Plays (lookT tab) (fun _ => clonePr clones) f vs bs (v, os)
def sameD (a b c d : Int) : Bool := decide (a = c ∧ b = d)
theorem eqv2_real (a b c d : Int) : real .eqv [.int, .int] [.int .i64 a, .int .i64 b] [.int .i64 c, .int .i64 d] = some (sameD a b c d) := by
  show rEqv _ _ _ = _
  simp only [rEqv, flatI, Option.bind_some, rEqL, rEqK, if_true]
  by_cases e : a = c <;> by_cases f : b = d <;> simp [sameD, e, f]
def hasD (l : List Ev) (r n : Int) : Bool := l.any fun x => sameD x.r x.n r n
theorem p100 (e x : Ev) : Pls 100 [evF x, .one (.ptr 0 0)] [.var false (evL e)] (bl (sameD x.r x.n e.r e.n)) [.var false (evL e)] := by
  refine Plays.wp (vf := v100) rfl rfl ⟨0, fun A call hA hcall => ?_⟩
  have h := eqv2_real x.r x.n e.r e.n
  rw [← hA] at h
  generalize sameD x.r x.n e.r e.n = t at h ⊢
  refine wpV_of (by ((conv => lhs; cbv); (repeat ((first | rewrite [h]); (try (conv => lhs; cbv)))); (try (with_reducible rfl)))) ?_
  (show finV _ _ _ = some _; ((conv => lhs; cbv); (try (with_reducible rfl))); (try rfl))
theorem any_take {α : Type} {p : α → Bool} {l : List α} {i : Nat} (h : i < l.length) : (l.take (i + 1)).any p = ((l.take i).any p || p l[i]) := by
  rw [List.take_succ_eq_append_getElem h]; simp only [List.any_append, List.any_cons, List.any_nil, Bool.or_false]
theorem any_of {α : Type} {p : α → Bool} {l : List α} {i : Nat} (h : i < l.length) (hp : p l[i] = true) : l.any p = true := List.any_eq_true.2 ⟨_, List.getElem_mem h, hp⟩
/-- At the first one that is it, or behind all. -/
theorem p127 (fl : Bool) (l : List Ev) (hl : l.length ≤ 1000000000000000000) (e : Ev) : ∃ i : Int, (decide (i ≥ 0) = hasD l e.r e.n) ∧ Pls 127 [.one (.iv (.sl fl 8 (l.map encEv))), .one (.fnc 100 [(0, 0)])] [.var false (evL e)] (i64 i) [.var false (evL e)] := by
  have : ∃ r, (∃ i : Int, (decide (i ≥ 0) = hasD l e.r e.n) ∧ r = (i64 i, [.var false (evL e)])) ∧ Plays (lookT tab) (fun _ => clonePr clones) 127 [.one (.iv (.sl fl 8 (l.map encEv))), .one (.fnc 100 [(0, 0)])] [.var false (evL e)] r := by
    obtain ⟨k1, hk1⟩ := Plays.all pr_mono (T := lookT tab) (pr := fun _ => clonePr clones) (f := 100) (vs := fun i => [evF (l.getD i d0), .one (.ptr 0 0)]) (bs := fun _ => [.var false (evL e)]) (r := fun i => (bl (sameD (l.getD i d0).r (l.getD i d0).n e.r e.n), [.var false (evL e)])) (m := l.length) (fun i hi => p100 e _)
    refine Plays.wpE (vf := v127) rfl rfl ⟨max k1 (l.length + 1), fun A call hA hcall => ?_⟩
    have h1 := hk1 (max k1 (l.length + 1)) (by omega)
    rw [← hcall] at h1
    obtain ⟨ix, hix, hz⟩ := ix_some
    obtain ⟨es, hes, C, G⟩ := evs_of hA hix l hl
    rw [hes]
    apply wpV_seq; refine wpV_of (by ((conv => lhs; cbv); (try (with_reducible rfl)))) ?_
    apply wpV_seq; apply wpV_seq; refine wpV_of (by ((conv => lhs; cbv); (try (with_reducible rfl)))) ?_
    apply wpV_block
    refine wpV_loop l.length (fun i s => (l.take i).any (fun x => sameD x.r x.n e.r e.n) = false ∧ s = ⟨1, [.one (.iv (.sl fl 8 es)), .one (.fnc 100 [(0, 0)]), u, u, u, u, u, i64 (A .len es), i64 (ix i), u, u, u, u, u, u, u, u, u, u], [.var false (evL e)]⟩) (by omega) (by ((conv => lhs; cbv); (try (with_reducible rfl)))) ⟨by simp, by rw [hz]⟩ ?_
    rintro i hi s ⟨hno, rfl⟩
    by_cases him : i < l.length
    · have g := G i him
      have h1i := h1 i him
      rw [getD_ev him] at h1i
      have ht := any_take (p := fun x : Ev => sameD x.r x.n e.r e.n) him
      have hof := any_of (p := fun x : Ev => sameD x.r x.n e.r e.n) him
      rw [hno] at ht
      generalize l[i] = x at *
      cases hs : sameD x.r x.n e.r e.n with
      | true =>
        rw [hs] at h1i
        refine wpV_of (by ((conv => lhs; cbv); (repeat ((first | rewrite [C.lt i him] | rewrite [g] | rewrite [h1i]); (try (conv => lhs; cbv)))); (try (with_reducible rfl)))) ?_
        refine ⟨_, ⟨ix i, ?_, rfl⟩, by (show finV _ _ _ = some _; ((conv => lhs; cbv); (try (with_reducible rfl))); (try rfl))⟩
        rw [hix, hasD, hof hs]; simp
      | false =>
        rw [hs] at h1i
        refine wpV_of (by ((conv => lhs; cbv); (repeat ((first | rewrite [C.lt i him] | rewrite [g] | rewrite [h1i]); (try (conv => lhs; cbv)))); (try (with_reducible rfl)))) ?_
        refine headQ_of (by ((conv => lhs; cbv); (try (with_reducible rfl)))) ?_
        exact ⟨him, by rw [ht, hs]; rfl, (by ((rw [C.inc i him]) <;> rfl))⟩
    · obtain rfl : i = l.length := by omega
      refine wpV_of (by ((conv => lhs; cbv); (repeat ((first | rewrite [C.ge]); (try (conv => lhs; cbv)))); (try (with_reducible rfl)))) ?_
      show wpV _ _ _ _ _ _
      refine wpV_of (by ((conv => lhs; cbv); (try (with_reducible rfl)))) ?_
      refine ⟨_, ⟨-1, ?_, rfl⟩, by (show finV _ _ _ = some _; ((conv => lhs; cbv); (try (with_reducible rfl))); (try rfl))⟩
      rw [List.take_length] at hno
      rw [hasD, hno]; simp
  obtain ⟨r, ⟨i, hi, rfl⟩, h⟩ := this
  exact ⟨i, hi, h⟩
theorem p99 (fl : Bool) (l : List Ev) (hl : l.length ≤ 1000000000000000000) (e : Ev) : Pls 99 [.one (.iv (.sl fl 8 (l.map encEv))), .one (.fnc 100 [(0, 0)])] [.var false (evL e)] (bl (hasD l e.r e.n)) [.var false (evL e)] := by
  obtain ⟨i, hi, n, hn⟩ := p127 fl l hl e
  refine Plays.wp (vf := v99) rfl rfl ⟨n, fun A call hA hcall => ?_⟩
  rw [← hcall] at hn
  have h : A .cmp .geq i 0 = hasD l e.r e.n := by rw [hA, geq_real, hi]
  generalize l.map encEv = es at *
  generalize hasD l e.r e.n = t at *
  refine wpV_of (by ((conv => lhs; cbv); (repeat ((first | rewrite [hn]); (try (conv => lhs; cbv)))); (try (with_reducible rfl)))) ?_
  (show finV _ _ _ = some _; ((conv => lhs; cbv); (repeat ((first | rewrite [h]); (try (conv => lhs; cbv)))); (try (with_reducible rfl))); (try rfl))
theorem p128 (fl : Bool) (l : List Ev) (hl : l.length ≤ 1000000000000000000) (r n : Int) : Pl 128 [.one (.iv (.sl fl 8 (l.map encEv))), dotF r n] (bl (hasD l r n)) [] := by
  refine Plays.wp (vf := v128) rfl rfl ⟨l.length + 1, fun A call hA hcall => ?_⟩
  obtain ⟨ix, hix, hz⟩ := ix_some
  obtain ⟨es, hes, C, G⟩ := evs_of hA hix l hl
  rw [hes]
  apply wpV_seq; refine wpV_of (by ((conv => lhs; cbv); (try (with_reducible rfl)))) ?_
  apply wpV_seq; apply wpV_seq; refine wpV_of (by ((conv => lhs; cbv); (try (with_reducible rfl)))) ?_
  apply wpV_block
  refine wpV_loop l.length (fun i s => (l.take i).any (fun x => sameD x.r x.n r n) = false ∧ s = ⟨0, [u, u, u, .one (.ptr 0 0), u, u, u, .one (.iv (.sl fl 8 es)), i64 (A .len es), i64 (ix i), u, u, u, u, u, u, u, u], [.var false [.iv (.int .i64 r), .iv (.int .i64 n)]]⟩) (by omega) (by ((conv => lhs; cbv); (try (with_reducible rfl)))) ⟨by simp, by rw [hz]⟩ ?_
  rintro i hi s ⟨hno, rfl⟩
  by_cases him : i < l.length
  · have g := G i him
    have ht := any_take (p := fun x : Ev => sameD x.r x.n r n) him
    have hof := any_of (p := fun x : Ev => sameD x.r x.n r n) him
    rw [hno] at ht
    generalize l[i] = x at *
    have hc := eqv2_real x.r x.n r n
    rw [← hA] at hc
    cases hs : sameD x.r x.n r n with
    | true =>
      rw [hs] at hc
      rw [show hasD l r n = true from hof hs]
      refine wpV_of (by ((conv => lhs; cbv); (repeat ((first | rewrite [C.lt i him] | rewrite [g] | rewrite [hc]); (try (conv => lhs; cbv)))); (try (with_reducible rfl)))) ?_
      (show finV _ _ _ = some _; ((conv => lhs; cbv); (try (with_reducible rfl))); (try rfl))
    | false =>
      rw [hs] at hc
      refine wpV_of (by ((conv => lhs; cbv); (repeat ((first | rewrite [C.lt i him] | rewrite [g] | rewrite [hc]); (try (conv => lhs; cbv)))); (try (with_reducible rfl)))) ?_
      refine headQ_of (by ((conv => lhs; cbv); (try (with_reducible rfl)))) ?_
      exact ⟨him, by rw [ht, hs]; rfl, (by ((rw [C.inc i him]) <;> rfl))⟩
  · obtain rfl : i = l.length := by omega
    rw [List.take_length] at hno
    rw [show hasD l r n = false from hno]
    refine wpV_of (by ((conv => lhs; cbv); (repeat ((first | rewrite [C.ge]); (try (conv => lhs; cbv)))); (try (with_reducible rfl)))) ?_
    show wpV _ _ _ _ _ _
    refine wpV_of (by ((conv => lhs; cbv); (try (with_reducible rfl)))) ?_
    (show finV _ _ _ = some _; ((conv => lhs; cbv); (try (with_reducible rfl))); (try rfl))
end Go.Proofs.Ytomchclmnmhjaaa
