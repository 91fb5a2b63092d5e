/- The signs of a text: of both packages, the same. -/
import Derived.Test.YtinobfilomhhhaaSWE
set_option linter.unusedSimpArgs false
set_option linter.unusedVariables false
set_option maxRecDepth 100000
set_option maxHeartbeats 4000000
namespace Go.Proofs.Ytinobfilomhhhaa
open Go GoV

/-- Where step j begins. -/
def pos (s : ByteArray) : Nat → Nat
  | 0 => 0
  | j + 1 => if pos s j < s.size then pos s j + (nxt s (pos s j)).2.toNat else pos s j
theorem nxt_range (s : ByteArray) (i : Nat) (hi : i < s.size) : -1 ≤ (nxt s i).1 ∧ (nxt s i).1 ≤ 1114111 ∧ 1 ≤ (nxt s i).2 ∧ (nxt s i).2 ≤ s.size - i := by
  have := nx_range (s.size - i) (by omega) (bt_range s i).1 (bt_range s (i + 1)).1 (bt_range s (i + 2)).1 (bt_range s (i + 3)).1
  unfold nxt
  omega
theorem pos_succ {s : ByteArray} {j : Nat} (h : pos s j < s.size) : (pos s (j + 1) : Int) = pos s j + (nxt s (pos s j)).2 ∧ pos s j < pos s (j + 1) ∧ pos s (j + 1) ≤ s.size := by
  have := nxt_range s (pos s j) h
  simp only [pos, h, if_true]
  omega
theorem pos_end (s : ByteArray) : ∃ m, m ≤ s.size ∧ pos s m = s.size ∧ ∀ j, j < m → pos s j < s.size := by
  have key : ∀ k, (∃ m, m ≤ k ∧ pos s m = s.size ∧ ∀ j, j < m → pos s j < s.size) ∨ (k ≤ pos s k ∧ ∀ j, j ≤ k → pos s j < s.size) := by
    intro k
    induction k with
    | zero =>
      by_cases h : pos s 0 < s.size
      · exact .inr ⟨Nat.zero_le _, fun j hj => by obtain rfl : j = 0 := by omega
                                                  exact h⟩
      · refine .inl ⟨0, Nat.le_refl _, ?_, fun j hj => by omega⟩
        have : pos s 0 = 0 := rfl
        omega
    | succ k ih =>
      rcases ih with ⟨m, h1, h2, h3⟩ | ⟨h1, h2⟩
      · exact .inl ⟨m, by omega, h2, h3⟩
      · have hk := pos_succ (h2 k (Nat.le_refl _))
        by_cases h : pos s (k + 1) < s.size
        · refine .inr ⟨by omega, fun j hj => ?_⟩
          by_cases e : j = k + 1
          · rw [e]; exact h
          · exact h2 j (by omega)
        · exact .inl ⟨k + 1, Nat.le_refl _, by omega, fun j hj => h2 j (by omega)⟩
  rcases key s.size with h | ⟨h1, h2⟩
  · exact h
  · have := h2 s.size (Nat.le_refl _); omega
/-- A sign, or a byte that is none. -/
def val (s : ByteArray) (i : Nat) : Int := if (nxt s i).1 < 0 then -1 - bt s i else (nxt s i).1
def encI (l : List Int) : List (List IV) := l.map fun n => [.int .i64 n]
theorem encI_len (l : List Int) : (encI l).length = l.length := by simp [encI]
theorem apo_I {l : List Int} {v : Int} (h : l.length ≤ 1000000000) : real .apo 8 0 l.length (encI l) [[.int .i64 v]] = some (true, encI (l ++ [v])) := by
  rw [real_apo]
  have : (l.length + 1) * 8 ≤ room := by unfold room; omega
  simp [rApo, encI, this]
/-- The signs of the first j steps. -/
def sgN (s : ByteArray) (j : Nat) : List Int := (List.range j).map fun k => val s (pos s k)
theorem sgN_len (s : ByteArray) (j : Nat) : (sgN s j).length = j := by simp [sgN]
theorem sgN_succ (s : ByteArray) (j : Nat) : sgN s (j + 1) = sgN s j ++ [val s (pos s j)] := by simp [sgN, List.range_succ]
theorem p25 (s : ByteArray) (hs : s.size ≤ 1000000000) {m : Nat} (hm : m ≤ s.size) (hme : pos s m = s.size) (hml : ∀ j, j < m → pos s j < s.size) : Pl 25 [.one (.iv (.str s))] (.one (.slo 0 0 m)) [.arr false false 1 (encI (sgN s m))] := by
  obtain ⟨k1, h43⟩ := Plays.all pr_mono (T := lookT tab) (pr := fun _ => clonePr clones) (f := 43) (vs := fun j => [.one (.iv (.str s)), i64 (pos s j)]) (bs := fun _ => []) (r := fun j => (tupF (nxt s (pos s j)).1 (nxt s (pos s j)).2, [])) (m := m) (fun j hj => p43 s hs (pos s j) (hml j hj))
  refine Plays.wp (vf := v25) rfl rfl ⟨k1 + m + 1, fun A call hA hcall => ?_⟩
  have h43 := h43 (k1 + m + 1) (by omega)
  rw [← hcall] at h43
  obtain ⟨S, hS⟩ : ∃ S : Int, S = s.size := ⟨_, rfl⟩
  have hsl : A .slen s = S := by rw [hA, hS]; rfl
  obtain ⟨ps, hps⟩ : ∃ ps : Nat → Int, ∀ j, ps j = pos s j := ⟨_, fun _ => rfl⟩
  obtain ⟨out, hout⟩ : ∃ out : Nat → List (List IV), ∀ j, out j = encI (sgN s j) := ⟨_, fun _ => rfl⟩
  obtain ⟨nn, hnn⟩ : ∃ nn : Nat → Nat, ∀ j, nn j = j := ⟨_, fun _ => rfl⟩
  simp only [← hps] at h43
  have happ : ∀ j, j < m → A .apo 8 0 (nn j) (out j) [[.int .i64 (val s (pos s j))]] = some (true, out (j + 1)) ∧ A .ln (out (j + 1)) = nn (j + 1) := fun j hj => by
    rw [hA, hout, hout, hnn, hnn]
    have h := apo_I (l := sgN s j) (v := val s (pos s j)) (by rw [sgN_len]; omega)
    rw [sgN_len] at h
    exact ⟨by rw [h, sgN_succ], by rw [real_ln, encI_len, sgN_len]⟩
  rw [← hout, show FV.one (.slo 0 0 m) = .one (.slo 0 0 (nn m)) by rw [hnn]]
  have hlt : ∀ j, j < m → A .cmp .lss (ps j) S = true := fun j hj => ltT hA (by rw [hps, hS]; have := hml j hj; omega)
  have hge : A .cmp .lss (ps m) S = false := ltF hA (by rw [hps, hS, hme]; omega)
  apply wpV_seq; refine wpV_of (by ((conv => lhs; cbv); (try (with_reducible rfl)))) ?_
  apply wpV_seq; refine wpV_of (by ((conv => lhs; cbv); (try (with_reducible rfl)))) ?_
  apply wpV_seq; apply wpV_seq; refine wpV_of (by ((conv => lhs; cbv); (try (with_reducible rfl)))) ?_
  apply wpV_block
  refine wpV_loop m (fun j st => st = ⟨0, [.one (.iv (.str s)), u, u, .one (.slo 0 0 (nn j)), i64 (ps j), u, u, u, u, u, u, u, u, u, u, u, u, u, u, u, u, u, u, u, u, u, u, u, u, u, u, u], [.arr false false 1 (out j)]⟩) (by omega) (by ((conv => lhs; cbv); (try (with_reducible rfl)))) (by rw [hps, hout, hnn]; rfl) ?_
  rintro j hj st rfl
  by_cases hjm : j < m
  · have l1 := hlt j hjm
    have k43 := h43 j hjm
    have hr := nxt_range s (pos s j) (hml j hjm)
    have hp := pos_succ (hml j hjm)
    have hb := bt_range s (pos s j)
    obtain ⟨a1, a2⟩ := happ j hjm
    have hadd : A .ar .add .i64 (ps j) (nxt s (pos s j)).2 = ps (j + 1) := addR hA (by rw [hps, hps]; exact hp.1) (by rw [hps]; omega)
    have hix : A .sidx s (ps j) = some (bt s (pos s j)) := by rw [hA, hps, sidx_real (by omega) (by have := hml j hjm; omega)]; simp
    have hv : val s (pos s j) = if (nxt s (pos s j)).1 < 0 then -1 - bt s (pos s j) else (nxt s (pos s j)).1 := rfl
    generalize val s (pos s j) = v at *
    generalize bt s (pos s j) = b at *
    generalize nxt s (pos s j) = w at *
    obtain ⟨r, k⟩ := w
    dsimp only at hr hadd hv k43
    by_cases hneg : r < 0
    · rw [if_pos hneg] at hv
      have h1 := ltT hA hneg
      have h2 := ckI hA (a := b) (by omega)
      have h3 := subR hA hv (by omega)
      refine wpV_of (by ((conv => lhs; cbv); (repeat ((first | rewrite [hsl] | rewrite [l1] | rewrite [k43] | rewrite [h1] | rewrite [hix] | rewrite [h2] | rewrite [h3] | rewrite [a1]); (try (conv => lhs; cbv)))); (try (with_reducible rfl)))) ?_
      refine headQ_of (by ((conv => lhs; cbv); (try (with_reducible rfl)))) ?_
      exact ⟨hjm, (by ((rw [hadd, a2]) <;> rfl))⟩
    · rw [if_neg hneg] at hv
      subst hv
      have h1 := ltF hA (a := v) (b := 0) (by omega)
      refine wpV_of (by ((conv => lhs; cbv); (repeat ((first | rewrite [hsl] | rewrite [l1] | rewrite [k43] | rewrite [h1] | rewrite [a1]); (try (conv => lhs; cbv)))); (try (with_reducible rfl)))) ?_
      refine headQ_of (by ((conv => lhs; cbv); (try (with_reducible rfl)))) ?_
      exact ⟨hjm, (by ((rw [hadd, a2]) <;> rfl))⟩
  · obtain rfl : j = m := by omega
    refine wpV_of (by ((conv => lhs; cbv); (repeat ((first | rewrite [hsl] | rewrite [hge]); (try (conv => lhs; cbv)))); (try (with_reducible rfl)))) ?_
    show wpV _ _ _ _ _ _
    (refine wpV_of (by ((conv => lhs; cbv); (try (with_reducible rfl)))) ?_; (show finV _ _ _ = some _; ((conv => lhs; cbv); (try (with_reducible rfl))); (try rfl)))

end Go.Proofs.Ytinobfilomhhhaa
