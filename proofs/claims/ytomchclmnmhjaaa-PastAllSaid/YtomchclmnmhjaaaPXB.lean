/- Events, and how many removals there are. -/
import Derived.Test.YtomchclmnmhjaaaPXA
import Derived.Test.YtomchclmnmhjaaaV3
set_option linter.unusedSimpArgs false
set_option linter.unusedVariables false
set_option maxRecDepth 100000
namespace Go.Proofs.Ytomchclmnmhjaaa
open Go GoV

structure Ev where
  r : Int
  n : Int
  t : Int
  k : Int
  d : ByteArray
  f : Int
  x : ByteArray
  b : Bool
  g : List (List IV)
def encEv (e : Ev) : List IV := [.int .i64 e.r, .int .i64 e.n, .int .i64 e.t, .int .i64 e.k, .str e.d, .int .i64 e.f, .str e.x, .sl e.b 2 e.g]
abbrev pastF (fl : Bool) (es : List (List IV)) (X : List IV) : FV := .agg [.iv (.sl fl 8 es), .iv (.arr 64 X)]
def drops (l : List Ev) : Nat := l.countP fun e => decide (e.k = 2)
theorem drops_take {l : List Ev} {i : Nat} (h : i < l.length) : drops (l.take (i + 1)) = drops (l.take i) + (if l[i].k = 2 then 1 else 0) := by
  simp only [drops, List.take_add_one, List.getElem?_eq_getElem h, Option.toList_some, List.countP_append, List.countP_singleton]
  by_cases hk : l[i].k = 2 <;> simp [hk]
theorem drops_le (l : List Ev) : drops l ≤ l.length := List.countP_le_length
theorem len_real (es : List (List IV)) : real .len es = (es.length : Int) := rfl
theorem get_ev {evs : List Ev} {i : Nat} (h : i < evs.length) : real .get (evs.map encEv) (i : Int) = some (encEv evs[i]) := get_real _ i (by simp [h])
theorem inc_real {i : Nat} (h : i ≤ 1000000000000000000) : real .ar .add .i64 (i : Int) 1 = ((i + 1 : Nat) : Int) := by
  rw [add_real (by unfold inI; omega)]; simp

def N57 (fl : Bool) (es : List (List IV)) (len cnt i : Int) : St := ⟨0, [u, u, u, i64 cnt, u, u, u, .one (.iv (.sl fl 8 es)), i64 len, i64 i, u, u, u, u, u, u, u, u, u, u], []⟩
theorem w57 (A : Ar) (call : CallT) (n m : Nat) (hn : m < n) (fl : Bool) (es : List (List IV)) (X : List IV) (ev : Nat → Ev) (ct ix : Nat → Int) (hc0 : ct 0 = 0) (hi0 : ix 0 = 0)
    (h1 : ∀ i, i < m → A .cmp .lss (ix i) (A .len es) = true) (h1' : A .cmp .lss (ix m) (A .len es) = false) (h2 : ∀ i, i < m → A .get es (ix i) = some (encEv (ev i))) (h3 : ∀ i, i < m → A .ar .add .i64 (ix i) 1 = ix (i + 1))
    (h4 : ∀ i, i < m → (A .cmp .eql (ev i).k 2 = true ∧ A .ar .add .i64 (ct i) 1 = ct (i + 1)) ∨ (A .cmp .eql (ev i).k 2 = false ∧ ct i = ct (i + 1))) :
    wpV A call (iterN n) v57.body ⟨0, padE 20 [pastF fl es X], []⟩ (finQ A v57 (i64 (ct m), [])) := by
  apply wpV_seq; refine wpV_of (by ((conv => lhs; cbv); (try (with_reducible rfl)))) ?_
  apply wpV_seq; refine wpV_of (by ((conv => lhs; cbv); (try (with_reducible rfl)))) ?_
  apply wpV_seq; apply wpV_seq; refine wpV_of (by ((conv => lhs; cbv); (try (with_reducible rfl)))) ?_
  apply wpV_block
  refine wpV_loop m (fun i s => s = N57 fl es (A .len es) (ct i) (ix i)) hn (by ((conv => lhs; cbv); (try (with_reducible rfl)))) (by rw [hc0, hi0]; rfl) ?_
  rintro i hi s rfl
  by_cases him : i < m
  · rcases h4 i him with ⟨b1, b2⟩ | ⟨b1, b2⟩
    · refine wpV_of (by ((conv => lhs; cbv); (repeat ((first | rewrite [h1 i him] | rewrite [h2 i him] | rewrite [b1]); (try (conv => lhs; cbv)))); (try (with_reducible rfl)))) ?_
      refine headQ_of (by ((conv => lhs; cbv); (try (with_reducible rfl)))) ?_
      exact ⟨him, by rw [h3 i him, b2]; rfl⟩
    · refine wpV_of (by ((conv => lhs; cbv); (repeat ((first | rewrite [h1 i him] | rewrite [h2 i him] | rewrite [b1]); (try (conv => lhs; cbv)))); (try (with_reducible rfl)))) ?_
      refine headQ_of (by ((conv => lhs; cbv); (try (with_reducible rfl)))) ?_
      exact ⟨him, by rw [h3 i him, b2]; rfl⟩
  · obtain rfl : i = m := by omega
    refine wpV_of (by ((conv => lhs; cbv); (repeat ((first | rewrite [h1']); (try (conv => lhs; cbv)))); (try (with_reducible rfl)))) ?_
    show wpV _ _ _ _ _ _
    refine wpV_of (by ((conv => lhs; cbv); (try (with_reducible rfl)))) ?_
    (show finV _ _ _ = some _; ((conv => lhs; cbv); (try (with_reducible rfl))); (try rfl))
theorem p57 (fl : Bool) (evs : List Ev) (hl : evs.length ≤ 1000000000000000000) (X : List IV) : Pl 57 [pastF fl (evs.map encEv) X] (i64 (drops evs)) [] := by
  refine Plays.wp (vf := v57) rfl rfl ⟨evs.length + 1, fun A call hA _ => ?_⟩
  subst hA
  have := w57 real call (evs.length + 1) evs.length (by omega) fl (evs.map encEv) X (fun i => evs.getD i ⟨0, 0, 0, 0, ⟨#[]⟩, 0, ⟨#[]⟩, false, []⟩) (fun i => (drops (evs.take i) : Int)) (fun i => (i : Int)) rfl rfl
    (fun i hi => by rw [lss_real, len_real]; simpa using hi) (by rw [lss_real, len_real]; simp) (fun i hi => by rw [get_ev hi]; simp [hi]) (fun i hi => inc_real (by omega))
    (fun i hi => by
      have h1 := drops_take hi
      have h2 := drops_le (evs.take i)
      simp only [List.length_take] at h2
      have e : evs.getD i ⟨0, 0, 0, 0, ⟨#[]⟩, 0, ⟨#[]⟩, false, []⟩ = evs[i] := by simp [hi]
      rw [eql_real, e]
      by_cases hk : evs[i].k = 2
      · rw [if_pos hk] at h1
        exact .inl ⟨decide_eq_true hk, by rw [h1]; exact inc_real (by omega)⟩
      · rw [if_neg hk] at h1
        exact .inr ⟨decide_eq_false hk, by rw [h1]; simp⟩)
  rw [List.take_length] at this
  exact this
end Go.Proofs.Ytomchclmnmhjaaa
