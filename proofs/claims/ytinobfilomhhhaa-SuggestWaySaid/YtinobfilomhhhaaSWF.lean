/- The signs of a text: of both packages, the same. -/
import Derived.Test.YtinobfilomhhhaaSWE
set_option linter.unusedSimpArgs false
set_option linter.unusedVariables false
set_option maxRecDepth 100000
set_option maxHeartbeats 4000000
namespace Go.Proofs.Ytinobfilomhhhaa
open Go GoV

/-- Where step j begins. -/
def pos (s : ByteArray) : Nat → Nat
  | 0 => 0
  | j + 1 => if pos s j < s.size then pos s j + (nxt s (pos s j)).2.toNat else pos s j
theorem nxt_range (s : ByteArray) (i : Nat) (hi : i < s.size) : -1 ≤ (nxt s i).1 ∧ (nxt s i).1 ≤ 1114111 ∧ 1 ≤ (nxt s i).2 ∧ (nxt s i).2 ≤ s.size - i := by
  have := nx_range (s.size - i) (by omega) (bt_range s i).1 (bt_range s (i + 1)).1 (bt_range s (i + 2)).1 (bt_range s (i + 3)).1
  unfold nxt
  omega
theorem pos_succ {s : ByteArray} {j : Nat} (h : pos s j < s.size) : (pos s (j + 1) : Int) = pos s j + (nxt s (pos s j)).2 ∧ pos s j < pos s (j + 1) ∧ pos s (j + 1) ≤ s.size := by
  have := nxt_range s (pos s j) h
  simp only [pos, h, if_true]
  omega
theorem pos_end (s : ByteArray) : ∃ m, m ≤ s.size ∧ pos s m = s.size ∧ ∀ j, j < m → pos s j < s.size := by
  have key : ∀ k, (∃ m, m ≤ k ∧ pos s m = s.size ∧ ∀ j, j < m → pos s j < s.size) ∨ (k ≤ pos s k ∧ ∀ j, j ≤ k → pos s j < s.size) := by
    intro k
    induction k with
    | zero =>
      by_cases h : pos s 0 < s.size
      · exact .inr ⟨Nat.zero_le _, fun j hj => by obtain rfl : j = 0 := by omega
                                                  exact h⟩
      · refine .inl ⟨0, Nat.le_refl _, ?_, fun j hj => by omega⟩
        have : pos s 0 = 0 := rfl
        omega
    | succ k ih =>
      rcases ih with ⟨m, h1, h2, h3⟩ | ⟨h1, h2⟩
      · exact .inl ⟨m, by omega, h2, h3⟩
      · have hk := pos_succ (h2 k (Nat.le_refl _))
        by_cases h : pos s (k + 1) < s.size
        · refine .inr ⟨by omega, fun j hj => ?_⟩
          by_cases e : j = k + 1
          · rw [e]; exact h
          · exact h2 j (by omega)
        · exact .inl ⟨k + 1, Nat.le_refl _, by omega, fun j hj => h2 j (by omega)⟩
  rcases key s.size with h | ⟨h1, h2⟩
  · exact h
  · have := h2 s.size (Nat.le_refl _); omega
/-- A sign, or a byte that is none. -/
def val (s : ByteArray) (i : Nat) : Int := if (nxt s i).1 < 0 then -1 - bt s i else (nxt s i).1
theorem val_range (s : ByteArray) (i : Nat) (hi : i < s.size) : -256 ≤ val s i ∧ val s i ≤ 1114111 := by
  have := nxt_range s i hi
  have := bt_range s i
  unfold val; split <;> omega
def encI (l : List Int) : List (List IV) := l.map fun n => [.int .i64 n]
theorem encI_len (l : List Int) : (encI l).length = l.length := by simp [encI]
theorem encI_getN {l : List Int} {j : Nat} (h : j < l.length) : real .getN (encI l) j = some [.int .i64 (l.getD j 0)] := by
  rw [real_getN]; simp [encI, h]
theorem encI_get {l : List Int} {j : Nat} (h : j < l.length) : real .get (encI l) (j : Int) = some [.int .i64 (l.getD j 0)] := by
  rw [real_get]; simp [encI, h]
theorem seg_I (l : List Int) : real .seg (encI l) 0 l.length = encI l := by
  rw [real_seg]
  show List.take l.length (List.drop 0 (encI l)) = _
  rw [List.drop_zero]
  exact List.take_of_length_le (by rw [encI_len]; exact Nat.le_refl _)
theorem apo_I {l : List Int} {v : Int} (h : l.length ≤ 1000000000) : real .apo 8 0 l.length (encI l) [[.int .i64 v]] = some (true, encI (l ++ [v])) := by
  rw [real_apo]
  have : (l.length + 1) * 8 ≤ room := by unfold room; omega
  simp [rApo, encI, this]
/-- The signs of the first j steps. -/
def sgN (s : ByteArray) (j : Nat) : List Int := (List.range j).map fun k => val s (pos s k)
theorem sgN_len (s : ByteArray) (j : Nat) : (sgN s j).length = j := by simp [sgN]
theorem sgN_succ (s : ByteArray) (j : Nat) : sgN s (j + 1) = sgN s j ++ [val s (pos s j)] := by simp [sgN, List.range_succ]
/-- Where the first j steps end. -/
def enN (s : ByteArray) (j : Nat) : List Int := (List.range j).map fun k => (pos s (k + 1) : Int)
theorem enN_len (s : ByteArray) (j : Nat) : (enN s j).length = j := by simp [enN]
theorem enN_succ (s : ByteArray) (j : Nat) : enN s (j + 1) = enN s j ++ [(pos s (j + 1) : Int)] := by simp [enN, List.range_succ]

theorem p25 (s : ByteArray) (hs : s.size ≤ 1000000000) {m : Nat} (hm : m ≤ s.size) (hme : pos s m = s.size) (hml : ∀ j, j < m → pos s j < s.size) : Pl 25 [.one (.iv (.str s))] (.one (.slo 0 0 m)) [.arr false false 1 (encI (sgN s m))] := by
  obtain ⟨k1, h43⟩ := Plays.all pr_mono (T := lookT tab) (pr := fun _ => clonePr clones) (f := 43) (vs := fun j => [.one (.iv (.str s)), i64 (pos s j)]) (bs := fun _ => []) (r := fun j => (tupF (nxt s (pos s j)).1 (nxt s (pos s j)).2, [])) (m := m) (fun j hj => p43 s hs (pos s j) (hml j hj))
  refine Plays.wp (vf := v25) rfl rfl ⟨k1 + m + 1, fun A call hA hcall => ?_⟩
  have h43 := h43 (k1 + m + 1) (by omega)
  rw [← hcall] at h43
  obtain ⟨S, hS⟩ : ∃ S : Int, S = s.size := ⟨_, rfl⟩
  have hsl : A .slen s = S := by rw [hA, hS]; rfl
  obtain ⟨ps, hps⟩ : ∃ ps : Nat → Int, ∀ j, ps j = pos s j := ⟨_, fun _ => rfl⟩
  obtain ⟨out, hout⟩ : ∃ out : Nat → List (List IV), ∀ j, out j = encI (sgN s j) := ⟨_, fun _ => rfl⟩
  obtain ⟨nn, hnn⟩ : ∃ nn : Nat → Nat, ∀ j, nn j = j := ⟨_, fun _ => rfl⟩
  simp only [← hps] at h43
  have happ : ∀ j, j < m → A .apo 8 0 (nn j) (out j) [[.int .i64 (val s (pos s j))]] = some (true, out (j + 1)) ∧ A .ln (out (j + 1)) = nn (j + 1) := fun j hj => by
    rw [hA, hout, hout, hnn, hnn]
    have h := apo_I (l := sgN s j) (v := val s (pos s j)) (by rw [sgN_len]; omega)
    rw [sgN_len] at h
    exact ⟨by rw [h, sgN_succ], by rw [real_ln, encI_len, sgN_len]⟩
  rw [← hout, show FV.one (.slo 0 0 m) = .one (.slo 0 0 (nn m)) by rw [hnn]]
  have hlt : ∀ j, j < m → A .cmp .lss (ps j) S = true := fun j hj => ltT hA (by rw [hps, hS]; have := hml j hj; omega)
  have hge : A .cmp .lss (ps m) S = false := ltF hA (by rw [hps, hS, hme]; omega)
  apply wpV_seq; refine wpV_of (by ((conv => lhs; cbv); (try (with_reducible rfl)))) ?_
  apply wpV_seq; refine wpV_of (by ((conv => lhs; cbv); (try (with_reducible rfl)))) ?_
  apply wpV_seq; apply wpV_seq; refine wpV_of (by ((conv => lhs; cbv); (try (with_reducible rfl)))) ?_
  apply wpV_block
  refine wpV_loop m (fun j st => st = ⟨0, [.one (.iv (.str s)), u, u, .one (.slo 0 0 (nn j)), i64 (ps j), u, u, u, u, u, u, u, u, u, u, u, u, u, u, u, u, u, u, u, u, u, u, u, u, u, u, u], [.arr false false 1 (out j)]⟩) (by omega) (by ((conv => lhs; cbv); (try (with_reducible rfl)))) (by rw [hps, hout, hnn]; rfl) ?_
  rintro j hj st rfl
  by_cases hjm : j < m
  · have l1 := hlt j hjm
    have k43 := h43 j hjm
    have hr := nxt_range s (pos s j) (hml j hjm)
    have hp := pos_succ (hml j hjm)
    have hb := bt_range s (pos s j)
    obtain ⟨a1, a2⟩ := happ j hjm
    have hadd : A .ar .add .i64 (ps j) (nxt s (pos s j)).2 = ps (j + 1) := addR hA (by rw [hps, hps]; exact hp.1) (by rw [hps]; omega)
    have hix : A .sidx s (ps j) = some (bt s (pos s j)) := by rw [hA, hps, sidx_real (by omega) (by have := hml j hjm; omega)]; simp
    have hv : val s (pos s j) = if (nxt s (pos s j)).1 < 0 then -1 - bt s (pos s j) else (nxt s (pos s j)).1 := rfl
    generalize val s (pos s j) = v at *
    generalize bt s (pos s j) = b at *
    generalize nxt s (pos s j) = w at *
    obtain ⟨r, k⟩ := w
    dsimp only at hr hadd hv k43
    by_cases hneg : r < 0
    · rw [if_pos hneg] at hv
      have h1 := ltT hA hneg
      have h2 := ckI hA (a := b) (by omega)
      have h3 := subR hA hv (by omega)
      refine wpV_of (by ((conv => lhs; cbv); (repeat ((first | rewrite [hsl] | rewrite [l1] | rewrite [k43] | rewrite [h1] | rewrite [hix] | rewrite [h2] | rewrite [h3] | rewrite [a1]); (try (conv => lhs; cbv)))); (try (with_reducible rfl)))) ?_
      refine headQ_of (by ((conv => lhs; cbv); (try (with_reducible rfl)))) ?_
      exact ⟨hjm, (by ((rw [hadd, a2]) <;> rfl))⟩
    · rw [if_neg hneg] at hv
      subst hv
      have h1 := ltF hA (a := v) (b := 0) (by omega)
      refine wpV_of (by ((conv => lhs; cbv); (repeat ((first | rewrite [hsl] | rewrite [l1] | rewrite [k43] | rewrite [h1] | rewrite [a1]); (try (conv => lhs; cbv)))); (try (with_reducible rfl)))) ?_
      refine headQ_of (by ((conv => lhs; cbv); (try (with_reducible rfl)))) ?_
      exact ⟨hjm, (by ((rw [hadd, a2]) <;> rfl))⟩
  · obtain rfl : j = m := by omega
    refine wpV_of (by ((conv => lhs; cbv); (repeat ((first | rewrite [hsl] | rewrite [hge]); (try (conv => lhs; cbv)))); (try (with_reducible rfl)))) ?_
    show wpV _ _ _ _ _ _
    (refine wpV_of (by ((conv => lhs; cbv); (try (with_reducible rfl)))) ?_; (show finV _ _ _ = some _; ((conv => lhs; cbv); (try (with_reducible rfl))); (try rfl)))

theorem p23 (s : ByteArray) (hs : s.size ≤ 1000000000) {m : Nat} (hm : m ≤ s.size) (hme : pos s m = s.size) (hml : ∀ j, j < m → pos s j < s.size) : Pl 23 [.one (.iv (.str s))] (.one (.slo 0 0 m)) [.arr false false 1 (encI (enN s m))] := by
  obtain ⟨k1, h24⟩ := Plays.all pr_mono (T := lookT tab) (pr := fun _ => clonePr clones) (f := 24) (vs := fun i => [.one (.iv (.str s)), i64 i]) (bs := fun _ => []) (r := fun i => (tupF (nxt s i).1 (nxt s i).2, [])) (m := s.size) (fun i hi => p24 s hs i hi)
  refine Plays.wp (vf := v23) rfl rfl ⟨k1 + s.size + 1, fun A call hA hcall => ?_⟩
  have h24 := h24 (k1 + s.size + 1) (by omega)
  rw [← hcall] at h24
  obtain ⟨S, hS⟩ : ∃ S : Int, S = s.size := ⟨_, rfl⟩
  have hsl : A .slen s = S := by rw [hA, hS]; rfl
  obtain ⟨ix, hix⟩ : ∃ ix : Nat → Int, ∀ i, ix i = i := ⟨_, fun _ => rfl⟩
  obtain ⟨out, hout⟩ : ∃ out : Nat → List (List IV), ∀ j, out j = encI (enN s j) := ⟨_, fun _ => rfl⟩
  obtain ⟨nn, hnn⟩ : ∃ nn : Nat → Nat, ∀ j, nn j = j := ⟨_, fun _ => rfl⟩
  simp only [← hix] at h24
  have happ : ∀ j, j < m → A .apo 8 0 (nn j) (out j) [[.int .i64 (pos s (j + 1))]] = some (true, out (j + 1)) ∧ A .ln (out (j + 1)) = nn (j + 1) := fun j hj => by
    rw [hA, hout, hout, hnn, hnn]
    have h := apo_I (l := enN s j) (v := pos s (j + 1)) (by rw [enN_len]; omega)
    rw [enN_len] at h
    exact ⟨by rw [h, enN_succ], by rw [real_ln, encI_len, enN_len]⟩
  rw [← hout, show FV.one (.slo 0 0 m) = .one (.slo 0 0 (nn m)) by rw [hnn]]
  have z0 : ix 0 = 0 := hix 0
  apply wpV_seq; refine wpV_of (by ((conv => lhs; cbv); (try (with_reducible rfl)))) ?_
  apply wpV_seq; refine wpV_of (by ((conv => lhs; cbv); (try (with_reducible rfl)))) ?_
  apply wpV_seq; refine wpV_of (by ((conv => lhs; cbv); (try (with_reducible rfl)))) ?_
  apply wpV_seq; apply wpV_seq; refine wpV_of (by ((conv => lhs; cbv); (try (with_reducible rfl)))) ?_
  apply wpV_block
  refine wpV_loop s.size (fun i st => ∃ c sk, (c ≤ m ∧ i ≤ pos s c ∧ (c = 0 ∨ pos s (c - 1) < i) ∧ sk = (pos s c : Int) - i) ∧ st = ⟨0, [.one (.iv (.str s)), u, u, .one (.slo 0 0 (nn c)), i64 sk, u, u, u, u, i64 (A .slen s), i64 (ix i), u, u, u, u, u, u, u, u, u, u, u, u, u, u, u, u, u, u, u, u, u, u], [.arr false false 1 (out c)]⟩) (by omega) (by ((conv => lhs; cbv); (try (with_reducible rfl))))
    ⟨0, 0, ⟨by omega, by simp [pos], .inl rfl, by simp [pos]⟩, by rw [z0, hnn, hout]; rfl⟩ ?_
  rintro i hi st ⟨c, sk, ⟨hc, hip, hc1, hsk⟩, rfl⟩
  by_cases him : i < s.size
  · have l1 : A .cmp .lss (ix i) S = true := ltT hA (by rw [hix, hS]; omega)
    have inc : A .ar .add .i64 (ix i) 1 = ix (i + 1) := addR hA (by rw [hix, hix]; omega) (by rw [hix]; omega)
    by_cases hskp : sk > 0
    · obtain ⟨sk', hsk'⟩ : ∃ v, v = sk - 1 := ⟨_, rfl⟩
      have hpm : pos s c ≤ s.size := by
        rcases Nat.eq_zero_or_pos c with rfl | h
        · simp [pos]
        · have := (pos_succ (hml (c - 1) (by omega))).2.2
          rw [show c - 1 + 1 = c by omega] at this; exact this
      have h1 := gtT hA hskp
      have h2 := subR hA hsk' (by omega)
      refine wpV_of (by ((conv => lhs; cbv); (repeat ((first | rewrite [hsl] | rewrite [l1] | rewrite [h1] | rewrite [h2]); (try (conv => lhs; cbv)))); (try (with_reducible rfl)))) ?_
      refine headQ_of (by ((conv => lhs; cbv); (try (with_reducible rfl)))) ?_
      exact ⟨him, c, sk', ⟨hc, by omega, by omega, by omega⟩, (by ((repeat (first | rewrite [inc] | rewrite [h2] | rewrite [hsl])); (try rfl)))⟩
    · obtain rfl : i = pos s c := by omega
      obtain rfl : sk = 0 := by omega
      have hcm : c < m := by
        rcases Nat.lt_or_ge c m with h | h
        · exact h
        · obtain rfl : c = m := by omega
          omega
      have k24 := h24 (pos s c) him
      have hr := nxt_range s (pos s c) him
      have hp := pos_succ him
      obtain ⟨a1, a2⟩ := happ c hcm
      have h1 : A .cmp .gtr 0 0 = false := gtF hA (by omega)
      obtain ⟨sk', hsk'⟩ : ∃ v, v = (nxt s (pos s c)).2 - 1 := ⟨_, rfl⟩
      have h2 : A .ar .sub .i64 (nxt s (pos s c)).2 1 = sk' := subR hA hsk' (by omega)
      obtain ⟨e, he⟩ : ∃ e : Int, e = pos s (c + 1) := ⟨_, rfl⟩
      have h3 : A .ar .add .i64 (ix (pos s c)) (nxt s (pos s c)).2 = e := addR hA (by rw [hix, he]; exact hp.1) (by omega)
      rw [← he] at a1
      have hfin : c + 1 ≤ m ∧ pos s c + 1 ≤ pos s (c + 1) ∧ (c + 1 = 0 ∨ pos s (c + 1 - 1) < pos s c + 1) ∧ sk' = (pos s (c + 1) : Int) - ((pos s c + 1 : Nat) : Int) := ⟨by omega, by omega, .inr (by rw [show c + 1 - 1 = c by omega]; omega), by omega⟩
      generalize nxt s (pos s c) = w at *
      obtain ⟨r, k⟩ := w
      dsimp only at hr h2 h3 k24
      refine wpV_of (by ((conv => lhs; cbv); (repeat ((first | rewrite [hsl] | rewrite [l1] | rewrite [h1] | rewrite [k24] | rewrite [h2] | rewrite [h3] | rewrite [a1]); (try (conv => lhs; cbv)))); (try (with_reducible rfl)))) ?_
      refine headQ_of (by ((conv => lhs; cbv); (try (with_reducible rfl)))) ?_
      exact ⟨him, c + 1, sk', hfin, (by ((repeat (first | rewrite [inc] | rewrite [h2] | rewrite [a2] | rewrite [hsl])); (try rfl)))⟩
  · obtain rfl : i = s.size := by omega
    have hcm : c = m := by
      rcases Nat.lt_or_ge c m with h | h
      · have := hml c h; omega
      · omega
    subst hcm
    have l1 : A .cmp .lss (ix s.size) S = false := ltF hA (by rw [hix, hS]; omega)
    refine wpV_of (by ((conv => lhs; cbv); (repeat ((first | rewrite [hsl] | rewrite [l1]); (try (conv => lhs; cbv)))); (try (with_reducible rfl)))) ?_
    show wpV _ _ _ _ _ _
    (refine wpV_of (by ((conv => lhs; cbv); (try (with_reducible rfl)))) ?_; (show finV _ _ _ = some _; ((conv => lhs; cbv); (try (with_reducible rfl))); (try rfl)))
theorem p7 (s : ByteArray) (hs : s.size ≤ 1000000000) {m : Nat} (hm : m ≤ s.size) (hme : pos s m = s.size) (hml : ∀ j, j < m → pos s j < s.size) : Pl 7 [.one (.iv (.str s))] (.one (.slo 0 0 m)) [.arr false false 1 (encI (sgN s m))] := by
  obtain ⟨k1, h24⟩ := Plays.all pr_mono (T := lookT tab) (pr := fun _ => clonePr clones) (f := 24) (vs := fun j => [.one (.iv (.str s)), i64 (pos s j)]) (bs := fun _ => []) (r := fun j => (tupF (nxt s (pos s j)).1 (nxt s (pos s j)).2, [])) (m := m) (fun j hj => p24 s hs (pos s j) (hml j hj))
  obtain ⟨k2, h23⟩ := (p23 s hs hm hme hml).at pr_mono
  refine Plays.wp (vf := v7) rfl rfl ⟨k1 + k2 + m + 1, fun A call hA hcall => ?_⟩
  have h24 := h24 (k1 + k2 + m + 1) (by omega)
  have h23 := h23 (k1 + k2 + m + 1) (by omega)
  rw [← hcall] at h24 h23
  obtain ⟨ix, hix⟩ : ∃ ix : Nat → Int, ∀ i, ix i = i := ⟨_, fun _ => rfl⟩
  obtain ⟨ps, hps⟩ : ∃ ps : Nat → Int, ∀ j, ps j = pos s j := ⟨_, fun _ => rfl⟩
  obtain ⟨out, hout⟩ : ∃ out : Nat → List (List IV), ∀ j, out j = encI (sgN s j) := ⟨_, fun _ => rfl⟩
  obtain ⟨nn, hnn⟩ : ∃ nn : Nat → Nat, ∀ j, nn j = j := ⟨_, fun _ => rfl⟩
  obtain ⟨en, hen⟩ : ∃ en, en = encI (enN s m) := ⟨_, rfl⟩
  simp only [← hps] at h24
  rw [← hen] at h23
  have happ : ∀ j, j < m → A .apo 8 0 (nn j) (out j) [[.int .i64 (val s (pos s j))]] = some (true, out (j + 1)) ∧ A .ln (out (j + 1)) = nn (j + 1) := fun j hj => by
    rw [hA, hout, hout, hnn, hnn]
    have h := apo_I (l := sgN s j) (v := val s (pos s j)) (by rw [sgN_len]; omega)
    rw [sgN_len] at h
    exact ⟨by rw [h, sgN_succ], by rw [real_ln, encI_len, sgN_len]⟩
  have hget : ∀ j, j < m → A .at_ (ix j) m = some j ∧ A .getN en j = some [.int .i64 (ps (j + 1))] := fun j hj => by
    refine ⟨by rw [hA, hix, real_at]; simp [rIdx, hj], ?_⟩
    rw [hA, hen, encI_getN (by rw [enN_len]; exact hj), hps]
    simp [enN, hj]
  obtain ⟨M, hM⟩ : ∃ M : Int, M = m := ⟨_, rfl⟩
  have hof : A .ofN m = M := by rw [hA, hM]; rfl
  have z0 : ix 0 = 0 := hix 0
  have hl : ∀ j, j < m → A .cmp .lss (ix j) M = true := fun j hj => ltT hA (by rw [hix, hM]; omega)
  have hg : A .cmp .lss (ix m) M = false := ltF hA (by rw [hix, hM]; omega)
  rw [← hout, show FV.one (.slo 0 0 m) = .one (.slo 0 0 (nn m)) by rw [hnn]]
  apply wpV_seq; refine wpV_of (by ((conv => lhs; cbv); (try (with_reducible rfl)))) ?_
  apply wpV_seq; refine wpV_of (by ((conv => lhs; cbv); (try (with_reducible rfl)))) ?_
  apply wpV_seq; refine wpV_of (by ((conv => lhs; cbv); (try (with_reducible rfl)))) ?_
  apply wpV_seq; apply wpV_seq; refine wpV_of (by ((conv => lhs; cbv); (repeat ((first | rewrite [h23] | rewrite [hof]); (try (conv => lhs; cbv)))); (try (with_reducible rfl)))) ?_
  apply wpV_block
  refine wpV_loop m (fun j st => st = ⟨0, [.one (.iv (.str s)), u, u, .one (.slo 0 0 (nn j)), i64 (ps j), u, u, u, u, u, .one (.slo 1 0 m), i64 (A .ofN m), i64 (ix j), u, u, u, u, u, u, u, u, u, u, u, u, u, u, u, u, u, u, u, u, u, u, u], [.arr false false 1 (out j), .arr false false 1 en]⟩) (by omega) (by ((conv => lhs; cbv); (try (with_reducible rfl)))) (by rw [z0, hps, hout, hnn]; rfl) ?_
  rintro j hj st rfl
  by_cases hjm : j < m
  · have l1 := hl j hjm
    have k24 := h24 j hjm
    have hr := nxt_range s (pos s j) (hml j hjm)
    have hb := bt_range s (pos s j)
    obtain ⟨a1, a2⟩ := happ j hjm
    obtain ⟨g1, g2⟩ := hget j hjm
    have hix2 : A .sidx s (ps j) = some (bt s (pos s j)) := by rw [hA, hps, sidx_real (by omega) (by have := hml j hjm; omega)]; simp
    have inc : A .ar .add .i64 (ix j) 1 = ix (j + 1) := addR hA (by rw [hix, hix]; omega) (by rw [hix]; omega)
    have hv : val s (pos s j) = if (nxt s (pos s j)).1 < 0 then -1 - bt s (pos s j) else (nxt s (pos s j)).1 := rfl
    generalize val s (pos s j) = v at *
    generalize bt s (pos s j) = b at *
    generalize nxt s (pos s j) = w at *
    obtain ⟨r, k⟩ := w
    dsimp only at hr hv k24
    by_cases hneg : r < 0
    · rw [if_pos hneg] at hv
      have h1 := ltT hA hneg
      have h2 := ckI hA (a := b) (by omega)
      have h3 := subR hA hv (by omega)
      refine wpV_of (by ((conv => lhs; cbv); (repeat ((first | rewrite [hof] | rewrite [l1] | rewrite [g1] | rewrite [g2] | rewrite [k24] | rewrite [h1] | rewrite [hix2] | rewrite [h2] | rewrite [h3] | rewrite [a1]); (try (conv => lhs; cbv)))); (try (with_reducible rfl)))) ?_
      refine headQ_of (by ((conv => lhs; cbv); (try (with_reducible rfl)))) ?_
      exact ⟨hjm, (by ((repeat (first | rewrite [inc] | rewrite [a2] | rewrite [hof])); (try rfl)))⟩
    · rw [if_neg hneg] at hv
      subst hv
      have h1 := ltF hA (a := v) (b := 0) (by omega)
      refine wpV_of (by ((conv => lhs; cbv); (repeat ((first | rewrite [hof] | rewrite [l1] | rewrite [g1] | rewrite [g2] | rewrite [k24] | rewrite [h1] | rewrite [a1]); (try (conv => lhs; cbv)))); (try (with_reducible rfl)))) ?_
      refine headQ_of (by ((conv => lhs; cbv); (try (with_reducible rfl)))) ?_
      exact ⟨hjm, (by ((repeat (first | rewrite [inc] | rewrite [a2] | rewrite [hof])); (try rfl)))⟩
  · obtain rfl : j = m := by omega
    refine wpV_of (by ((conv => lhs; cbv); (repeat ((first | rewrite [hof] | rewrite [hg]); (try (conv => lhs; cbv)))); (try (with_reducible rfl)))) ?_
    show wpV _ _ _ _ _ _
    (refine wpV_of (by ((conv => lhs; cbv); (try (with_reducible rfl)))) ?_; (show finV _ _ _ = some _; ((conv => lhs; cbv); (try (with_reducible rfl))); (try rfl)))
end Go.Proofs.Ytinobfilomhhhaa
