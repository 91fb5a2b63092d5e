/- A past with an event more; the document's answers: as equations. -/
import Derived.Test.YtomchclmnmhjaaaPXF
set_option linter.unusedSimpArgs false
set_option linter.unusedVariables false
set_option maxRecDepth 100000
set_option maxHeartbeats 1000000
namespace Go.Proofs.Ytomchclmnmhjaaa
open Go GoV

theorem hasD_cl (l : List Ev) (r n : Int) : hasD (l.map clE) r n = hasD l r n := by
  simp only [hasD, List.any_map]; rfl
def add (l : List Ev) (e : Ev) : List Ev := bif hasD l e.r e.n then l else l ++ [e]
theorem add_cl (l : List Ev) (e : Ev) : ((add l e).map clE).map encEv = bif hasD l e.r e.n then (l.map clE).map encEv else (l.map clE ++ [clE e]).map encEv := by
  simp only [add]; cases hasD l e.r e.n <;> simp
/-- Less than two lists' worth of memory. -/
theorem app_real {b : Nat} {es ys : List (List IV)} (h : (es.length + ys.length) * b ≤ room) : real .apo b 0 es.length es ys = some (true, es ++ ys) := by
  rw [real_apo]
  simp [rApo, h]
theorem p59 (fl : Bool) (l : List Ev) (hl : (l.length + 1) * 96 ≤ room) (hg : ∀ e, e ∈ l → e.g.length * 16 ≤ reachBytes) (X : List IV) (e : Ev) (he : e.g.length * 16 ≤ reachBytes) :
    Pl 59 [pastF fl (l.map encEv) X, evF e] (.agg [.slo 0 0 (add l e).length, .iv (.arr 64 X)]) [.arr true false 8 (((add l e).map clE).map encEv)] := by
  have hrm := room_val
  obtain ⟨k1, h98⟩ := (p98 fl l (by omega) hg).at pr_mono
  obtain ⟨k2, h99⟩ := (p99 (real .isE ((l.map clE).map encEv)) (l.map clE) (by simp; omega) e).at pr_mono
  obtain ⟨k3, h97⟩ := (p97 e he).at pr_mono
  refine Plays.wp (vf := v59) rfl rfl ⟨k1 + k2 + k3, fun A call hA hcall => ?_⟩
  have h98 := h98 (k1 + k2 + k3) (by omega)
  have h99 := h99 (k1 + k2 + k3) (by omega)
  have h97 := h97 (k1 + k2 + k3) (by omega)
  rw [← hcall] at h98 h99 h97
  rw [hasD_cl] at h99
  rw [add_cl]
  have hsg : A .seg ((l.map clE).map encEv) 0 l.length = (l.map clE).map encEv := by
    have := seg_all ((l.map clE).map encEv); rw [hA]; simpa using this
  have hap : A .seg e.g 0 e.g.length = e.g ∧ A .apo 96 0 l.length ((l.map clE).map encEv) [cells e (A .isE e.g) e.g] = some (true, (l.map clE ++ [clE e]).map encEv) ∧ A .ln ((l.map clE ++ [clE e]).map encEv) = l.length + 1 := by
    rw [hA]
    refine ⟨seg_all _, ?_, by rw [ln_real]; simp⟩
    have := apo_room (b := 96) (es := (l.map clE).map encEv) (c := cells e (real .isE e.g) e.g) (by simp only [List.length_map]; omega)
    simp only [List.length_map] at this
    rw [this]
    simp only [List.map_append, List.map_cons, List.map_nil]
    rfl
  have hlen : (add l e).length = bif hasD l e.r e.n then l.length else l.length + 1 := by simp only [add]; cases hasD l e.r e.n <;> simp
  rw [hlen]
  obtain ⟨a1, a2, a3⟩ := hap
  rw [← hA] at h99
  generalize (l.map clE ++ [clE e]).map encEv = es2 at *
  generalize l.length + 1 = n2 at *
  generalize l.length = n1 at *
  generalize (l.map clE).map encEv = es1 at *
  generalize l.map encEv = es at *
  obtain ⟨L, hL⟩ : ∃ L, e.g.length = L := ⟨_, rfl⟩
  rw [hL] at h97 a1
  generalize hasD l e.r e.n = t at *
  obtain ⟨er, en, et, ek, ed, ef, ex, eb, eg⟩ := e
  dsimp only [evF, cells, evC, encEv, evL] at h97 h99 a1 a2 a3
  apply wpV_seq; refine wpV_of (by ((conv => lhs; cbv); (try (with_reducible rfl)))) ?_
  apply wpV_seq; refine wpV_of (by ((conv => lhs; cbv); (repeat ((first | rewrite [h98]); (try (conv => lhs; cbv)))); (try (with_reducible rfl)))) ?_
  cases t with
  | true =>
    apply wpV_seq; refine wpV_of (by ((conv => lhs; cbv); (repeat ((first | rewrite [hsg] | rewrite [h99]); (try (conv => lhs; cbv)))); (try (with_reducible rfl)))) ?_
    refine wpV_of (by ((conv => lhs; cbv); (try (with_reducible rfl)))) ?_
    dsimp only [cond_true, cond_false]
    (show finV _ _ _ = some _; ((conv => lhs; cbv); (repeat ((first | rewrite [hsg]); (try (conv => lhs; cbv)))); (try (with_reducible rfl))); (try rfl))
  | false =>
    apply wpV_seq; refine wpV_of (by ((conv => lhs; cbv); (repeat ((first | rewrite [hsg] | rewrite [h99] | rewrite [h97] | rewrite [a1] | rewrite [a2] | rewrite [a3]); (try (conv => lhs; cbv)))); (try (with_reducible rfl)))) ?_
    refine wpV_of (by ((conv => lhs; cbv); (try (with_reducible rfl)))) ?_
    dsimp only [cond_true, cond_false]
    (show finV _ _ _ = some _; ((conv => lhs; cbv); (repeat ((first | rewrite [a3]); (try (conv => lhs; cbv)))); (try (with_reducible rfl))); (try rfl))
theorem p101 (fl : Bool) (l : List Ev) (hl : (l.length + 1) * 96 ≤ room) (e : Ev) : Pl 101 [.one (.iv (.sl fl 8 (l.map encEv))), evF e] (.one (.slo 0 0 (add l e).length)) [.arr false false 8 ((add l e).map encEv)] := by
  have hrm := room_val
  obtain ⟨k1, h128⟩ := (p128 fl l (by omega) e.r e.n).at pr_mono
  refine Plays.wp (vf := v101) rfl rfl ⟨k1, fun A call hA hcall => ?_⟩
  have h128 := h128 k1 (by omega)
  rw [← hcall] at h128
  have h1 : A .apo 96 0 0 [] (l.map encEv) = some (true, l.map encEv) ∧ A .ln (l.map encEv) = l.length := by
    rw [hA, ln_real]
    have := app_real (b := 96) (es := []) (ys := l.map encEv) (by simp; omega)
    exact ⟨this, by simp⟩
  have h2 : A .apo 96 0 l.length (l.map encEv) [encEv e] = some (true, (l ++ [e]).map encEv) ∧ A .ln ((l ++ [e]).map encEv) = l.length + 1 := by
    rw [hA, ln_real]
    have := app_real (b := 96) (es := l.map encEv) (ys := [encEv e]) (by simp; omega)
    rw [List.length_map] at this
    exact ⟨by rw [this, List.map_append]; rfl, by simp⟩
  have hlen : (add l e).length = bif hasD l e.r e.n then l.length else l.length + 1 := by simp only [add]; cases hasD l e.r e.n <;> simp
  have hadd : (add l e).map encEv = bif hasD l e.r e.n then l.map encEv else (l ++ [e]).map encEv := by simp only [add]; cases hasD l e.r e.n <;> simp
  rw [hlen, hadd]
  obtain ⟨a1, a2⟩ := h1
  obtain ⟨a3, a4⟩ := h2
  generalize (l ++ [e]).map encEv = es2 at *
  generalize l.length + 1 = n2 at *
  generalize l.length = n1 at *
  generalize l.map encEv = es at *
  generalize hasD l e.r e.n = t at *
  obtain ⟨er, en, et, ek, ed, ef, ex, eb, eg⟩ := e
  dsimp only [evF, encEv] at h128 a3
  apply wpV_seq; refine wpV_of (by ((conv => lhs; cbv); (try (with_reducible rfl)))) ?_
  apply wpV_seq; refine wpV_of (by ((conv => lhs; cbv); (try (with_reducible rfl)))) ?_
  apply wpV_seq; refine wpV_of (by ((conv => lhs; cbv); (repeat ((first | rewrite [a1] | rewrite [a2]); (try (conv => lhs; cbv)))); (try (with_reducible rfl)))) ?_
  cases t with
  | true =>
    apply wpV_seq; refine wpV_of (by ((conv => lhs; cbv); (repeat ((first | rewrite [h128]); (try (conv => lhs; cbv)))); (try (with_reducible rfl)))) ?_
    dsimp only [cond_true, cond_false]
    (show finV _ _ _ = some _; ((conv => lhs; cbv); (repeat ((first | rewrite [a2]); (try (conv => lhs; cbv)))); (try (with_reducible rfl))); (try rfl))
  | false =>
    apply wpV_seq; refine wpV_of (by ((conv => lhs; cbv); (repeat ((first | rewrite [h128]); (try (conv => lhs; cbv)))); (try (with_reducible rfl)))) ?_
    refine wpV_of (by ((conv => lhs; cbv); (repeat ((first | rewrite [a2] | rewrite [a3] | rewrite [a4]); (try (conv => lhs; cbv)))); (try (with_reducible rfl)))) ?_
    dsimp only [cond_true, cond_false]
    (show finV _ _ _ = some _; ((conv => lhs; cbv); (repeat ((first | rewrite [a4]); (try (conv => lhs; cbv)))); (try (with_reducible rfl))); (try rfl))
theorem p60 (fl : Bool) (l : List Ev) (hl : (l.length + 1) * 96 ≤ room) (X : List IV) (e : Ev) :
    Pl 60 [pastF fl (l.map encEv) X, evF e] (.agg [.slo 0 0 (add l e).length, .iv (.arr 64 X)]) [.arr false false 8 ((add l e).map encEv)] := by
  obtain ⟨k1, h101⟩ := p101 fl l hl e
  refine Plays.wp (vf := v60) rfl rfl ⟨k1, fun A call hA hcall => ?_⟩
  rw [← hcall] at h101
  generalize (add l e).length = n at *
  generalize (add l e).map encEv = es2 at *
  generalize l.map encEv = es at *
  obtain ⟨er, en, et, ek, ed, ef, ex, eb, eg⟩ := e
  dsimp only [evF, encEv] at h101
  refine wpV_of (by ((conv => lhs; cbv); (repeat ((first | rewrite [h101]); (try (conv => lhs; cbv)))); (try (with_reducible rfl)))) ?_
  (show finV _ _ _ = some _; ((conv => lhs; cbv); (try (with_reducible rfl))); (try rfl))
end Go.Proofs.Ytomchclmnmhjaaa
