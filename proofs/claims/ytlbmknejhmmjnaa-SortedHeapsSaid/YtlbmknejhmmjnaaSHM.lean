/- The reference's order, remainders, what is in a list; lists that are the same. -/
import Derived.Test.YtlbmknejhmmjnaaSHJ
set_option linter.unusedSimpArgs false
set_option linter.unusedVariables false
set_option maxRecDepth 100000
set_option maxHeartbeats 1000000
set_option cbv.maxSteps 10000000
namespace Go.Proofs.Ytlbmknejhmmjnaa
open Go GoV

abbrev slE (f : Bool) (l : List Int) : FV := .one (.iv (.sl f 1 (l.map e1)))
theorem apo_e1 {A : Ar} (hA : A = real) {l : List Int} {v : Int} {j : Nat} (hj : j = l.length) (h : l.length ≤ 1000000000) : A .apo 8 0 j (l.map e1) [e1 v] = some (true, (l ++ [v]).map e1) ∧ A .ln ((l ++ [v]).map e1) = j + 1 := by
  rw [hA, real_apo, real_ln]
  have : (l.length + 1) * 8 ≤ room := by unfold room; omega
  subst hj
  simp [rApo, this]
theorem getE {A : Ar} (hA : A = real) {l : List Int} {es : List (List IV)} (he : es = l.map e1) {j : Nat} {x : Int} (hx : x = j) (h : j < l.length) : A .get es x = some (e1 l[j]) := by
  rw [hA, he, hx, real_get]; simp [h]
theorem lenE {A : Ar} (hA : A = real) {l : List Int} {es : List (List IV)} (he : es = l.map e1) {x : Int} (hx : x = l.length) : A .len es = x := by
  rw [hA, he, hx, real_len]; simp
/-- Sort. -/
def srt (l : List Int) (k : Nat) : List Int := (List.range k).flatMap fun (i : Nat) => l.filter fun x => decide (ky x = (i : Int))
theorem srt_succ (l : List Int) (k : Nat) : srt l (k + 1) = srt l k ++ l.filter fun x => decide (ky x = (k : Int)) := by
  simp [srt, List.range_succ, List.flatMap_append]
theorem p9 (g : Bool) (l zi : List Int) (hl : l.length ≤ 1000) (hin : ∀ y, y ∈ l → inR y) : ∃ n, (srt l 10).length = n ∧ Pn 1301 9 [.one (.slo 0 0 l.length)] [.arr false g 1 ((l ++ zi).map e1)] (.one (.slo 1 0 n)) [.arr false g 1 ((l ++ zi).map e1), .arr false false 1 ((srt l 10).map e1)] := by
  refine ⟨_, rfl, playN 1300 rfl rfl fun A call hA hcall => ?_⟩
  have k44 : ∀ a, inR a → call 44 [i64 a] [] = some (i64 (ky a), []) := fun a ha => by rw [hcall]; exact p44 a ha 1300 (by omega)
  obtain ⟨mp, hmp⟩ : ∃ mp : List Int → List (List IV), ∀ c, mp c = c.map e1 := ⟨_, fun _ => rfl⟩
  obtain ⟨es, hes⟩ : ∃ es, es = (l ++ zi).map e1 := ⟨_, rfl⟩
  obtain ⟨nl, hnl⟩ : ∃ nl, nl = l.length := ⟨_, rfl⟩
  obtain ⟨N, hN⟩ : ∃ v : Int, v = l.length := ⟨_, rfl⟩
  have l1 : A .ofN nl = N := ofNR hA (by rw [hN, hnl])
  obtain ⟨I, hI⟩ : ∃ I : Nat → Int, ∀ i, I i = i := ⟨_, fun _ => rfl⟩
  have i0 : I 0 = 0 := hI 0
  have flen : ∀ k j, ((l.take j).filter fun x => decide (ky x = (k : Int))).length ≤ l.length := fun k j => Nat.le_trans (List.length_filter_le _ _) (by simp; omega)
  have slen : ∀ k, (srt l k).length ≤ k * l.length := fun k => by
    induction k with
    | zero => simp [srt]
    | succ k ih =>
      rw [srt_succ, List.length_append]
      have := List.length_filter_le (fun x => decide (ky x = (k : Int))) l
      rw [Nat.add_mul]; omega
  rw [← hes, ← hmp, ← hnl]
  apply wpV_seq; refine wpV_of (by ((conv => lhs; cbv); (try (with_reducible rfl)))) ?_
  apply wpV_seq; refine wpV_of (by ((conv => lhs; cbv); (try (with_reducible rfl)))) ?_
  apply wpV_seq; apply wpV_seq; refine wpV_of (by ((conv => lhs; cbv); (try (with_reducible rfl)))) ?_
  apply wpV_block
  refine wpV_loop 10 (fun k st => st = ⟨1, [.one (.slo 0 0 nl), u, u, .one (.slo 1 0 (srt l k).length), u, u, u, i64 (I k), u, u, u, u, u, u, u, u, u, u, u, u, u, u, u, u, u, u, u], [.arr false g 1 es, .arr false false 1 (mp (srt l k))]⟩) (by omega) (by ((conv => lhs; cbv); (try (with_reducible rfl)))) (by rw [i0, hmp]; rfl) ?_
  rintro k hk st rfl
  by_cases hk10 : k < 10
  · have c0 := ltT hA (a := I k) (b := 10) (by rw [hI]; omega)
    obtain ⟨S, hS⟩ : ∃ S : Nat → List Int, ∀ j, S j = srt l k ++ (l.take j).filter fun x => decide (ky x = (k : Int)) := ⟨_, fun _ => rfl⟩
    have hS0 : srt l k = S 0 := by rw [hS]; simp
    have hSe : srt l (k + 1) = S l.length := by rw [hS, List.take_length, srt_succ]
    have hSl : ∀ j, (S j).length ≤ 100000 := fun j => by
      rw [hS, List.length_append]
      have h1 := slen k
      have h2 := flen k j
      have : k * l.length ≤ 10 * 1000 := Nat.mul_le_mul (by omega) hl
      omega
    have inc0 := addR hA (a := I k) (b := 1) (c := I (k + 1)) (by rw [hI, hI]; omega) (by rw [hI]; omega)
    rw [hS0, hSe]
    obtain ⟨sn, hsn⟩ : ∃ sn : Nat → Nat, ∀ j, sn j = (S j).length := ⟨_, fun _ => rfl⟩
    obtain ⟨sm, hsm⟩ : ∃ sm : Nat → List (List IV), ∀ j, sm j = mp (S j) := ⟨_, fun _ => rfl⟩
    rw [← hsn, ← hsm, ← hsn, ← hsm]
    apply wpV_seq; refine wpV_of (by ((conv => lhs; cbv); (try (with_reducible rfl)))) ?_
    apply wpV_seq; refine wpV_of (by ((conv => lhs; cbv); (repeat ((first | rewrite [c0]); (try (conv => lhs; cbv)))); (try (with_reducible rfl)))) ?_
    apply wpV_seq; apply wpV_block
    apply wpV_seq; refine wpV_of (by ((conv => lhs; cbv); (try (with_reducible rfl)))) ?_
    apply wpV_seq; refine wpV_of (by ((conv => lhs; cbv); (repeat ((first | rewrite [l1]); (try (conv => lhs; cbv)))); (try (with_reducible rfl)))) ?_
    apply wpV_block
    refine wpV_loop l.length (fun j st => st = ⟨1, [.one (.slo 0 0 nl), u, u, .one (.slo 1 0 (sn j)), i64 (I k), u, u, i64 (I k), u, u, .one (.slo 0 0 nl), i64 N, i64 (I j), u, u, u, u, u, u, u, u, u, u, u, u, u, u], [.arr false g 1 es, .arr false false 1 (sm j)]⟩) (by omega) (by ((conv => lhs; cbv); (repeat ((first | rewrite [l1]); (try (conv => lhs; cbv)))); (try (with_reducible rfl)))) (by rw [l1, i0]) ?_
    rintro j hj st rfl
    by_cases hjl : j < l.length
    · have c1 := ltT hA (a := I j) (b := N) (by rw [hI]; omega)
      have a0 : A .at_ (I j) nl = some j := atR hA (hI j) (by omega)
      have g1 : A .getN es j = some (e1 l[j]) := by
        have h := getNR hA (c := l) (zs := zi.map e1) (i := j) hjl
        rwa [← List.map_append, ← hes] at h
      have kk := k44 l[j] (hin _ (List.getElem_mem hjl))
      have inc := addR hA (a := I j) (b := 1) (c := I (j + 1)) (by rw [hI, hI]; omega) (by rw [hI]; omega)
      have hnext : S (j + 1) = if ky l[j] = (k : Int) then S j ++ [l[j]] else S j := by
        rw [hS, hS, List.take_succ_eq_append_getElem hjl, List.filter_append]
        by_cases e : ky l[j] = (k : Int)
        · rw [if_pos e]; simp [e]
        · rw [if_neg e]; simp [e]
      have ap := apo_e1 hA (l := S j) (v := l[j]) (j := sn j) (hsn j) (by have := hSl j; omega)
      by_cases e : ky l[j] = (k : Int)
      · rw [if_pos e] at hnext
        have t1 := eqT hA (a := ky l[j]) (b := I k) (by rw [hI]; exact e)
        rw [← hnext] at ap
        obtain ⟨a1, a2⟩ := ap
        rw [← hmp, ← hsm, ← hmp, ← hsm] at a1
        rw [← hmp, ← hsm] at a2
        have hn2 : sn (j + 1) = sn j + 1 := by rw [hsn, hsn, hnext]; simp
        generalize l[j] = x at *
        generalize ky x = kx at *
        dsimp only [e1] at g1 a1
        refine wpV_of (by ((conv => lhs; cbv); (repeat ((first | rewrite [c1] | rewrite [a0] | rewrite [g1] | rewrite [kk] | rewrite [t1] | rewrite [a1]); (try (conv => lhs; cbv)))); (try (with_reducible rfl)))) ?_
        refine headQ_of (by ((conv => lhs; cbv); (try (with_reducible rfl)))) ?_
        exact ⟨hjl, by rw [inc, a2, hn2]⟩
      · rw [if_neg e] at hnext
        have t1 := eqF hA (a := ky l[j]) (b := I k) (by rw [hI]; exact e)
        have h1 : sn (j + 1) = sn j := by rw [hsn, hsn, hnext]
        have h2 : sm (j + 1) = sm j := by rw [hsm, hsm, hnext]
        generalize l[j] = x at *
        generalize ky x = kx at *
        dsimp only [e1] at g1
        refine wpV_of (by ((conv => lhs; cbv); (repeat ((first | rewrite [c1] | rewrite [a0] | rewrite [g1] | rewrite [kk] | rewrite [t1]); (try (conv => lhs; cbv)))); (try (with_reducible rfl)))) ?_
        refine headQ_of (by ((conv => lhs; cbv); (try (with_reducible rfl)))) ?_
        exact ⟨hjl, by rw [inc, h1, h2]⟩
    · obtain rfl : j = l.length := by omega
      have c1 := ltF hA (a := I l.length) (b := N) (by rw [hI]; omega)
      refine wpV_of (by ((conv => lhs; cbv); (repeat ((first | rewrite [c1]); (try (conv => lhs; cbv)))); (try (with_reducible rfl)))) ?_
      show wpV _ _ _ _ _ _
      refine wpV_of (by ((conv => lhs; cbv); (try (with_reducible rfl)))) ?_
      refine headQ_of (by ((conv => lhs; cbv); (try (with_reducible rfl)))) ?_
      exact ⟨hk10, by rw [inc0]⟩
  · obtain rfl : k = 10 := by omega
    have c0 := ltF hA (a := I 10) (b := 10) (by rw [hI]; omega)
    generalize srt l 10 = S at *
    generalize mp S = E at *
    generalize S.length = n at *
    refine wpV_of (by ((conv => lhs; cbv); (repeat ((first | rewrite [c0]); (try (conv => lhs; cbv)))); (try (with_reducible rfl)))) ?_
    show wpV _ _ _ _ _ _
    (refine wpV_of (by ((conv => lhs; cbv); (try (with_reducible rfl)))) ?_; (show finV _ _ _ = some _; ((conv => lhs; cbv); (try (with_reducible rfl))); (try rfl)))
end Go.Proofs.Ytlbmknejhmmjnaa
