/- How far two texts are: gone through. -/
import Derived.Test.YtinobfilomhhhaaSWG
set_option linter.unusedSimpArgs false
set_option linter.unusedVariables false
set_option maxRecDepth 100000
set_option maxHeartbeats 4000000
namespace Go.Proofs.Ytinobfilomhhhaa
open Go GoV

abbrev slI (f : Bool) (l : List Int) : FV := .one (.iv (.sl f 1 (encI l)))
def gD (l : List Int) (j : Nat) : Int := l.getD j 0
theorem getI {A : Ar} (hA : A = real) {l : List Int} {es : List (List IV)} (he : es = encI l) {j : Nat} {x : Int} (hx : x = j) (h : j < l.length) : A .get es x = some [.int .i64 (gD l j)] := by
  rw [hA, he, hx, encI_get h]; rfl
theorem p44 (fa fb : Bool) (al bl' : List Int) (hla : al.length ≤ 1000000000) (hlb : bl'.length ≤ 1000000000) (i k : Nat) (hi : i < al.length) (hk : k < bl'.length) : Pl 44 [slI fa al, slI fb bl', i64 ((i + 1 : Nat) : Int), i64 ((k + 1 : Nat) : Int)] (bl (sw (gD al) (gD bl') i k)) [] := by
  obtain ⟨I, hI⟩ : ∃ I : Int, I = ((i + 1 : Nat) : Int) := ⟨_, rfl⟩
  obtain ⟨K, hK⟩ : ∃ K : Int, K = ((k + 1 : Nat) : Int) := ⟨_, rfl⟩
  rw [← hI, ← hK]
  refine Plays.wp (vf := v44) rfl rfl ⟨0, fun A call hA hcall => ?_⟩
  obtain ⟨es, hes⟩ : ∃ es, es = encI al := ⟨_, rfl⟩
  obtain ⟨fs, hfs⟩ : ∃ fs, fs = encI bl' := ⟨_, rfl⟩
  dsimp only [slI]
  rw [← hes, ← hfs]
  by_cases h1 : i = 0
  · rw [show sw (gD al) (gD bl') i k = false by simp [sw, h1]]
    apply wpV_seq; refine wpV_of (by ((conv => lhs; cbv); (try (with_reducible rfl)))) ?_
    (refine wpV_of (by ((conv => lhs; cbv); (repeat ((first | rewrite [gtF hA (a := I) (b := 1) (by omega)]); (try (conv => lhs; cbv)))); (try (with_reducible rfl)))) ?_; (show finV _ _ _ = some _; ((conv => lhs; cbv); (repeat ((first | rewrite [gtF hA (a := I) (b := 1) (by omega)]); (try (conv => lhs; cbv)))); (try (with_reducible rfl))); (try rfl)))
  by_cases h2 : k = 0
  · rw [show sw (gD al) (gD bl') i k = false by simp [sw, h2]]
    apply wpV_seq; refine wpV_of (by ((conv => lhs; cbv); (try (with_reducible rfl)))) ?_
    (refine wpV_of (by ((conv => lhs; cbv); (repeat ((first | rewrite [gtT hA (a := I) (b := 1) (by omega)] | rewrite [gtF hA (a := K) (b := 1) (by omega)]); (try (conv => lhs; cbv)))); (try (with_reducible rfl)))) ?_; (show finV _ _ _ = some _; ((conv => lhs; cbv); (repeat ((first | rewrite [gtT hA (a := I) (b := 1) (by omega)] | rewrite [gtF hA (a := K) (b := 1) (by omega)]); (try (conv => lhs; cbv)))); (try (with_reducible rfl))); (try rfl)))
  obtain ⟨i1, hi1⟩ : ∃ v, v = I - 1 := ⟨_, rfl⟩
  obtain ⟨i2, hi2⟩ : ∃ v, v = I - 2 := ⟨_, rfl⟩
  obtain ⟨k1, hk1⟩ : ∃ v, v = K - 1 := ⟨_, rfl⟩
  obtain ⟨k2, hk2⟩ : ∃ v, v = K - 2 := ⟨_, rfl⟩
  have a1 := subR hA hi1 (by omega)
  have a2 := subR hA hi2 (by omega)
  have a3 := subR hA hk1 (by omega)
  have a4 := subR hA hk2 (by omega)
  have g1 := getI hA hes (j := i) (x := i1) (by omega) hi
  have g2 := getI hA hes (j := i - 1) (x := i2) (by omega) (by omega)
  have g3 := getI hA hfs (j := k) (x := k1) (by omega) hk
  have g4 := getI hA hfs (j := k - 1) (x := k2) (by omega) (by omega)
  have c1 := gtT hA (a := I) (b := 1) (by omega)
  have c2 := gtT hA (a := K) (b := 1) (by omega)
  have hs : sw (gD al) (gD bl') i k = (decide (gD al i = gD bl' (k - 1)) && decide (gD al (i - 1) = gD bl' k)) := by
    rw [Bool.eq_iff_iff]
    simp only [sw, decide_eq_true_eq, Bool.and_eq_true]
    omega
  rw [hs]
  generalize gD al i = x1 at *
  generalize gD al (i - 1) = x2 at *
  generalize gD bl' k = y1 at *
  generalize gD bl' (k - 1) = y2 at *
  apply wpV_seq; refine wpV_of (by ((conv => lhs; cbv); (try (with_reducible rfl)))) ?_
  by_cases e1 : x1 = y2
  · have t1 := eqT hA e1
    rw [decide_eq_true e1, Bool.true_and]
    by_cases e2 : x2 = y1
    · have t2 := eqT hA e2
      rw [decide_eq_true e2]
      (refine wpV_of (by ((conv => lhs; cbv); (repeat ((first | rewrite [c1] | rewrite [c2] | rewrite [a1] | rewrite [a4] | rewrite [g1] | rewrite [g4] | rewrite [t1] | rewrite [a2] | rewrite [a3] | rewrite [g2] | rewrite [g3] | rewrite [t2]); (try (conv => lhs; cbv)))); (try (with_reducible rfl)))) ?_; (show finV _ _ _ = some _; ((conv => lhs; cbv); (repeat ((first | rewrite [c1] | rewrite [c2] | rewrite [a1] | rewrite [a4] | rewrite [g1] | rewrite [g4] | rewrite [t1] | rewrite [a2] | rewrite [a3] | rewrite [g2] | rewrite [g3] | rewrite [t2]); (try (conv => lhs; cbv)))); (try (with_reducible rfl))); (try rfl)))
    · have t2 := eqF hA e2
      rw [decide_eq_false e2]
      (refine wpV_of (by ((conv => lhs; cbv); (repeat ((first | rewrite [c1] | rewrite [c2] | rewrite [a1] | rewrite [a4] | rewrite [g1] | rewrite [g4] | rewrite [t1] | rewrite [a2] | rewrite [a3] | rewrite [g2] | rewrite [g3] | rewrite [t2]); (try (conv => lhs; cbv)))); (try (with_reducible rfl)))) ?_; (show finV _ _ _ = some _; ((conv => lhs; cbv); (repeat ((first | rewrite [c1] | rewrite [c2] | rewrite [a1] | rewrite [a4] | rewrite [g1] | rewrite [g4] | rewrite [t1] | rewrite [a2] | rewrite [a3] | rewrite [g2] | rewrite [g3] | rewrite [t2]); (try (conv => lhs; cbv)))); (try (with_reducible rfl))); (try rfl)))
  · have t1 := eqF hA e1
    rw [decide_eq_false e1, Bool.false_and]
    (refine wpV_of (by ((conv => lhs; cbv); (repeat ((first | rewrite [c1] | rewrite [c2] | rewrite [a1] | rewrite [a4] | rewrite [g1] | rewrite [g4] | rewrite [t1]); (try (conv => lhs; cbv)))); (try (with_reducible rfl)))) ?_; (show finV _ _ _ = some _; ((conv => lhs; cbv); (repeat ((first | rewrite [c1] | rewrite [c2] | rewrite [a1] | rewrite [a4] | rewrite [g1] | rewrite [g4] | rewrite [t1]); (try (conv => lhs; cbv)))); (try (with_reducible rfl))); (try rfl)))
/-- A row as a list. -/
def rowL (p : Nat → Int) (n : Nat) : List Int := (List.range n).map p
theorem rowL_len (p : Nat → Int) (n : Nat) : (rowL p n).length = n := by simp [rowL]
theorem rowL_succ (p : Nat → Int) (n : Nat) : rowL p (n + 1) = rowL p n ++ [p n] := by simp [rowL, List.range_succ]
theorem rowL_get (p : Nat → Int) {n j : Nat} (h : j < n) : gD (rowL p n) j = p j := by simp [gD, rowL, h]
theorem p26 (fa fb fo ft : Bool) (al bl' : List Int) (hla : al.length ≤ 1000) (hlb : bl'.length ≤ 1000) (i : Nat) (hi : i < al.length) (p q : Nat → Int) (t : List Int) (hp : ∀ k, k ≤ bl'.length → 0 ≤ p k ∧ p k ≤ 2000) (ht : 1 ≤ i → t = rowL q (bl'.length + 1)) (hq : 1 ≤ i → ∀ k, k ≤ bl'.length → 0 ≤ q k ∧ q k ≤ 2000)
    (hr : ∀ k, k ≤ bl'.length → 0 ≤ nxRow (gD al) (gD bl') i p q k ∧ nxRow (gD al) (gD bl') i p q k ≤ 2000) :
    Pl 26 [slI fa al, slI fb bl', i64 ((i + 1 : Nat) : Int), slI fo (rowL p (bl'.length + 1)), slI ft t] (.one (.slo 0 0 (bl'.length + 1))) [.arr false false 1 (encI (rowL (nxRow (gD al) (gD bl') i p q) (bl'.length + 1)))] := by
  obtain ⟨n, hn⟩ : ∃ n, n = bl'.length := ⟨_, rfl⟩
  obtain ⟨I, hI⟩ : ∃ I : Int, I = ((i + 1 : Nat) : Int) := ⟨_, rfl⟩
  obtain ⟨K, hK⟩ : ∃ K : Nat → Int, ∀ k, K k = ((k + 1 : Nat) : Int) := ⟨_, fun _ => rfl⟩
  obtain ⟨w, hw⟩ : ∃ w : Nat → Int, ∀ k, w k = nxRow (gD al) (gD bl') i p q k := ⟨_, fun _ => rfl⟩
  have hwf : nxRow (gD al) (gD bl') i p q = w := by funext k; rw [hw]
  have hw0 : w 0 = I := by rw [hw, hI]; show (i : Int) + 1 = _; omega
  have hws : ∀ k, w (k + 1) = if sw (gD al) (gD bl') i k = true then min (min (min (p (k + 1)) (w k) + 1) (if gD al i = gD bl' k then p k else p k + 1)) (q (k - 1) + 1) else min (min (p (k + 1)) (w k) + 1) (if gD al i = gD bl' k then p k else p k + 1) := fun k => by
    rw [hw, hw]; rfl
  simp only [hwf] at hr ⊢
  rw [← hI, ← hn]
  obtain ⟨k1, h44⟩ := Plays.all pr_mono (T := lookT tab) (pr := fun _ => clonePr clones) (f := 44) (vs := fun k => [slI fa al, slI fb bl', i64 I, i64 (K k)]) (bs := fun _ => []) (r := fun k => (bl (sw (gD al) (gD bl') i k), [])) (m := n)
    (fun k hk => by rw [hI, hK]; exact p44 fa fb al bl' (by omega) (by omega) i k hi (by omega))
  refine Plays.wp (vf := v26) rfl rfl ⟨k1 + n + 1, fun A call hA hcall => ?_⟩
  have h44 := h44 (k1 + n + 1) (by omega)
  rw [← hcall] at h44
  obtain ⟨es, hes⟩ : ∃ es, es = encI al := ⟨_, rfl⟩
  obtain ⟨fs, hfs⟩ : ∃ fs, fs = encI bl' := ⟨_, rfl⟩
  obtain ⟨os, hos⟩ : ∃ os, os = encI (rowL p (n + 1)) := ⟨_, rfl⟩
  obtain ⟨ts, hts⟩ : ∃ ts, ts = encI t := ⟨_, rfl⟩
  obtain ⟨out, hout⟩ : ∃ out : Nat → List (List IV), ∀ j, out j = encI (rowL w (j + 1)) := ⟨_, fun _ => rfl⟩
  obtain ⟨nn, hnn⟩ : ∃ nn : Nat → Nat, ∀ j, nn j = j + 1 := ⟨_, fun _ => rfl⟩
  dsimp only [slI] at h44 ⊢
  rw [← hes, ← hfs] at h44 ⊢
  rw [← hos, ← hts, ← hout, ← hnn n]
  have hfl : A .len fs = n := by rw [hA, hfs, real_len, encI_len, hn]
  obtain ⟨NN, hNN⟩ : ∃ NN : Int, NN = n := ⟨_, rfl⟩
  rw [← hNN] at hfl
  have happ : ∀ j, j < n → A .apo 8 0 (nn j) (out j) [[.int .i64 (w (j + 1))]] = some (true, out (j + 1)) ∧ A .ln (out (j + 1)) = nn (j + 1) := fun j hj => by
    rw [hA, hout, hout, hnn, hnn]
    have h := apo_I (l := rowL w (j + 1)) (v := w (j + 1)) (by rw [rowL_len]; omega)
    rw [rowL_len] at h
    exact ⟨by rw [h, rowL_succ w (j + 1)], by rw [real_ln, encI_len, rowL_len]⟩
  have hget : ∀ j, j < n → ∀ x : Int, x = j → A .at_ x (nn j) = some j ∧ A .getN (out j) j = some [.int .i64 (w j)] := fun j hj x hx => by
    refine ⟨by rw [hA, hx, hnn, real_at]; simp [rIdx]; omega, ?_⟩
    rw [hA, hout, encI_getN (by rw [rowL_len]; omega)]
    have := rowL_get w (n := j + 1) (j := j) (by omega)
    rw [gD] at this
    rw [this]
  have hinit : [[IV.int .i64 I]] = out 0 := by rw [hout, ← hw0]; rfl
  have hln0 : A .ln (out 0) = nn 0 := by rw [hA, hout, hnn, real_ln, encI_len, rowL_len]
  apply wpV_seq; refine wpV_of (by ((conv => lhs; cbv); (try (with_reducible rfl)))) ?_
  apply wpV_seq; refine wpV_of (by ((conv => lhs; cbv); (try (with_reducible rfl)))) ?_
  apply wpV_seq; apply wpV_seq; refine wpV_of (by ((conv => lhs; cbv); (try (with_reducible rfl)))) ?_
  apply wpV_block
  refine wpV_loop n (fun j st => st = ⟨0, (.one (.iv (.sl fa 1 es)) :: .one (.iv (.sl fb 1 fs)) :: i64 I :: .one (.iv (.sl fo 1 os)) :: .one (.iv (.sl ft 1 ts)) :: u :: u :: u :: u :: u :: u :: .one (.slo 0 0 (nn j)) :: i64 (K j) :: u :: u :: u :: u :: u :: u :: u :: u :: u :: u :: u :: u :: u :: u :: u :: u :: u :: u :: u :: u :: u :: u :: u :: u :: u :: u :: u :: u :: u :: u :: u :: u :: u :: u :: u :: u :: u :: u :: u :: u :: u :: u :: u :: u :: u :: u :: u :: u :: u :: u :: u :: u :: u :: u :: u :: u :: u :: u :: u :: u :: u :: u :: u :: u :: []), [.arr false false 1 (out j)]⟩) (by omega) (by ((conv => lhs; cbv); (try (with_reducible rfl)))) (by rw [hK, ← hinit, ← hln0, ← hinit]; rfl) ?_
  rintro j hj st rfl
  by_cases hjn : j < n
  · have c0 : A .cmp .leq (K j) NN = true := leT hA (by rw [hK]; omega)
    have inc : A .ar .add .i64 (K j) 1 = K (j + 1) := addR hA (by rw [hK, hK]; omega) (by rw [hK]; omega)
    have rp1 := hp (j + 1) (by omega)
    have rp := hp j (by omega)
    have rw0 := hr j (by omega)
    have rw1 := hr (j + 1) (by omega)
    have k44 := h44 j hjn
    obtain ⟨a1, a2⟩ := happ j hjn
    obtain ⟨x, hx⟩ : ∃ x, x = K j - 1 := ⟨_, rfl⟩
    have hxj : x = j := by rw [hx, hK]; omega
    have e1 := subR hA hx (by omega)
    obtain ⟨g1, g2⟩ := hget j hjn x hxj
    have g3 := getI hA hos (j := j + 1) (x := K j) (hK j) (by rw [rowL_len]; omega)
    rw [rowL_get p (by omega)] at g3
    obtain ⟨mn, hmn⟩ : ∃ v, v = min (p (j + 1)) (w j) := ⟨_, rfl⟩
    obtain ⟨n1, hn1⟩ : ∃ v, v = mn + 1 := ⟨_, rfl⟩
    have m1 := miR hA hmn
    have m2 := addR hA hn1 (by omega)
    obtain ⟨i0, hi0⟩ : ∃ v, v = I - 1 := ⟨_, rfl⟩
    have e2 := subR hA hi0 (by omega)
    have g4 := getI hA hes (j := i) (x := i0) (by omega) hi
    have g5 := getI hA hfs (j := j) hxj (by omega)
    have g6 := getI hA hos (j := j) hxj (by rw [rowL_len]; omega)
    rw [rowL_get p (by omega)] at g6
    have hwj := hws j
    rw [← hmn, ← hn1] at hwj
    have hsw : sw (gD al) (gD bl') i j = true → 1 ≤ i ∧ 1 ≤ j := fun h => by simp only [sw, decide_eq_true_eq] at h; omega
    have hq0 : sw (gD al) (gD bl') i j = true → A .ar .sub .i64 (K j) 2 = K j - 2 ∧ A .get ts (K j - 2) = some [.int .i64 (q (j - 1))] ∧ A .ar .add .i64 (q (j - 1)) 1 = q (j - 1) + 1 := fun h => by
      obtain ⟨h1, h2⟩ := hsw h
      have := hq h1 (j - 1) (by omega)
      refine ⟨subR hA rfl (by rw [hK]; omega), ?_, addR hA rfl (by omega)⟩
      have g := getI hA hts (j := j - 1) (x := K j - 2) (by rw [hK]; omega) (by rw [ht h1, rowL_len]; omega)
      rw [ht h1, rowL_get q (by omega)] at g
      exact g
    generalize sw (gD al) (gD bl') i j = s1 at *
    generalize gD al i = x1 at *
    generalize gD bl' j = y1 at *
    generalize p (j + 1) = pj1 at *
    generalize p j = pj at *
    generalize q (j - 1) = qj at *
    by_cases hxy : x1 = y1
    · have t1 := eqT hA hxy
      rw [if_pos hxy] at hwj
      obtain ⟨n2, hn2⟩ : ∃ v, v = min n1 pj := ⟨_, rfl⟩
      have m3 := miR hA hn2
      rw [← hn2] at hwj
      cases s1 with
      | false =>
        rw [if_neg (by simp)] at hwj
        rw [hwj] at a1
        refine wpV_of (by ((conv => lhs; cbv); (repeat ((first | rewrite [hfl] | rewrite [c0] | rewrite [g3] | rewrite [e1] | rewrite [g1] | rewrite [g2] | rewrite [m1] | rewrite [m2] | rewrite [e2] | rewrite [g4] | rewrite [g5] | rewrite [t1] | rewrite [g6] | rewrite [m3] | rewrite [k44] | rewrite [a1]); (try (conv => lhs; cbv)))); (try (with_reducible rfl)))) ?_
        refine headQ_of (by ((conv => lhs; cbv); (try (with_reducible rfl)))) ?_
        exact ⟨hjn, (by ((repeat (first | rewrite [inc] | rewrite [a2])); (try rfl)))⟩
      | true =>
        rw [if_pos rfl] at hwj
        obtain ⟨q1, q2, q3⟩ := hq0 rfl
        obtain ⟨kk, hkk⟩ : ∃ v, v = K j - 2 := ⟨_, rfl⟩
        obtain ⟨q4, hq4⟩ : ∃ v, v = qj + 1 := ⟨_, rfl⟩
        rw [← hkk] at q1 q2
        rw [← hq4] at q3 hwj
        have m4 := miR hA hwj
        refine wpV_of (by ((conv => lhs; cbv); (repeat ((first | rewrite [hfl] | rewrite [c0] | rewrite [g3] | rewrite [e1] | rewrite [g1] | rewrite [g2] | rewrite [m1] | rewrite [m2] | rewrite [e2] | rewrite [g4] | rewrite [g5] | rewrite [t1] | rewrite [g6] | rewrite [m3] | rewrite [k44] | rewrite [q1] | rewrite [q2] | rewrite [q3] | rewrite [m4] | rewrite [a1]); (try (conv => lhs; cbv)))); (try (with_reducible rfl)))) ?_
        refine headQ_of (by ((conv => lhs; cbv); (try (with_reducible rfl)))) ?_
        exact ⟨hjn, (by ((repeat (first | rewrite [inc] | rewrite [a2])); (try rfl)))⟩
    · have t1 := eqF hA hxy
      rw [if_neg hxy] at hwj
      obtain ⟨pp, hpp⟩ : ∃ v, v = pj + 1 := ⟨_, rfl⟩
      have m0 := addR hA hpp (by omega)
      rw [← hpp] at hwj
      obtain ⟨n2, hn2⟩ : ∃ v, v = min n1 pp := ⟨_, rfl⟩
      have m3 := miR hA hn2
      rw [← hn2] at hwj
      cases s1 with
      | false =>
        rw [if_neg (by simp)] at hwj
        rw [hwj] at a1
        refine wpV_of (by ((conv => lhs; cbv); (repeat ((first | rewrite [hfl] | rewrite [c0] | rewrite [g3] | rewrite [e1] | rewrite [g1] | rewrite [g2] | rewrite [m1] | rewrite [m2] | rewrite [e2] | rewrite [g4] | rewrite [g5] | rewrite [t1] | rewrite [g6] | rewrite [m0] | rewrite [m3] | rewrite [k44] | rewrite [a1]); (try (conv => lhs; cbv)))); (try (with_reducible rfl)))) ?_
        refine headQ_of (by ((conv => lhs; cbv); (try (with_reducible rfl)))) ?_
        exact ⟨hjn, (by ((repeat (first | rewrite [inc] | rewrite [a2])); (try rfl)))⟩
      | true =>
        rw [if_pos rfl] at hwj
        obtain ⟨q1, q2, q3⟩ := hq0 rfl
        obtain ⟨kk, hkk⟩ : ∃ v, v = K j - 2 := ⟨_, rfl⟩
        obtain ⟨q4, hq4⟩ : ∃ v, v = qj + 1 := ⟨_, rfl⟩
        rw [← hkk] at q1 q2
        rw [← hq4] at q3 hwj
        have m4 := miR hA hwj
        refine wpV_of (by ((conv => lhs; cbv); (repeat ((first | rewrite [hfl] | rewrite [c0] | rewrite [g3] | rewrite [e1] | rewrite [g1] | rewrite [g2] | rewrite [m1] | rewrite [m2] | rewrite [e2] | rewrite [g4] | rewrite [g5] | rewrite [t1] | rewrite [g6] | rewrite [m0] | rewrite [m3] | rewrite [k44] | rewrite [q1] | rewrite [q2] | rewrite [q3] | rewrite [m4] | rewrite [a1]); (try (conv => lhs; cbv)))); (try (with_reducible rfl)))) ?_
        refine headQ_of (by ((conv => lhs; cbv); (try (with_reducible rfl)))) ?_
        exact ⟨hjn, (by ((repeat (first | rewrite [inc] | rewrite [a2])); (try rfl)))⟩
  · obtain rfl : j = n := by omega
    have c0 : A .cmp .leq (K j) NN = false := leF hA (by rw [hK]; omega)
    refine wpV_of (by ((conv => lhs; cbv); (repeat ((first | rewrite [hfl] | rewrite [c0]); (try (conv => lhs; cbv)))); (try (with_reducible rfl)))) ?_
    show wpV _ _ _ _ _ _
    (refine wpV_of (by ((conv => lhs; cbv); (try (with_reducible rfl)))) ?_; (show finV _ _ _ = some _; ((conv => lhs; cbv); (try (with_reducible rfl))); (try rfl)))

theorem row_range (a b : Nat → Int) (i k : Nat) (hi : i ≤ 1000) (hk : k ≤ 1000) : 0 ≤ tb a b i k ∧ tb a b i k ≤ 2000 := by
  have := tb_nn a b i k
  have := tb_high a b i k
  omega
/-- Steps from one text's signs to another's. -/
def dist (al bl' : List Int) : Int := tb (gD al) (gD bl') al.length bl'.length
theorem p8 (s t : ByteArray) (hs : s.size ≤ 64) (ht : t.size ≤ 64) {m n : Nat} (hm : m ≤ s.size) (hme : pos s m = s.size) (hml : ∀ j, j < m → pos s j < s.size) (hn : n ≤ t.size) (hne : pos t n = t.size) (hnl : ∀ j, j < n → pos t j < t.size) :
    Pl 8 [.one (.iv (.str s)), .one (.iv (.str t))] (i64 (dist (sgN s m) (sgN t n))) [] := by
  obtain ⟨k1, h1⟩ := (p25 s (by omega) hm hme hml).at pr_mono
  obtain ⟨k2, h2⟩ := (p25 t (by omega) hn hne hnl).at pr_mono
  obtain ⟨al, hal⟩ : ∃ al, al = sgN s m := ⟨_, rfl⟩
  obtain ⟨bs, hbs⟩ : ∃ bs, bs = sgN t n := ⟨_, rfl⟩
  have hma : al.length = m := by rw [hal, sgN_len]
  have hnb : bs.length = n := by rw [hbs, sgN_len]
  rw [← hal] at h1
  rw [← hbs] at h2
  rw [← hal, ← hbs]
  obtain ⟨rw', hrw⟩ : ∃ rw' : Nat → List Int, ∀ i, rw' i = rowL (tb (gD al) (gD bs) i) (n + 1) := ⟨_, fun _ => rfl⟩
  obtain ⟨tw, htw⟩ : ∃ tw : Nat → List Int, ∀ i, tw i = if i = 0 then [] else rw' (i - 1) := ⟨_, fun _ => rfl⟩
  have hrl : ∀ i, (rw' i).length = n + 1 := fun i => by rw [hrw, rowL_len]
  obtain ⟨k3, h3⟩ : ∃ k3, ∀ N, k3 ≤ N → ∀ i, i < m → ∀ fa fb fo ft, play real (lookT tab) (fun _ => clonePr clones) N 26 [slI fa al, slI fb bs, i64 ((i + 1 : Nat) : Int), slI fo (rw' i), slI ft (tw i)] [] = some (.one (.slo 0 0 (n + 1)), [.arr false false 1 (encI (rw' (i + 1)))]) := by
    have key : ∀ fa fb fo ft : Bool, ∃ k, ∀ N, k ≤ N → ∀ i, i < m → play real (lookT tab) (fun _ => clonePr clones) N 26 [slI fa al, slI fb bs, i64 ((i + 1 : Nat) : Int), slI fo (rw' i), slI ft (tw i)] [] = some (.one (.slo 0 0 (n + 1)), [.arr false false 1 (encI (rw' (i + 1)))]) := fun fa fb fo ft =>
      Plays.all pr_mono (T := lookT tab) (pr := fun _ => clonePr clones) (f := 26) (vs := fun i => [slI fa al, slI fb bs, i64 ((i + 1 : Nat) : Int), slI fo (rw' i), slI ft (tw i)]) (bs := fun _ => []) (r := fun i => (.one (.slo 0 0 (n + 1)), [.arr false false 1 (encI (rw' (i + 1)))])) (m := m)
        (fun i hi => by
          have h := p26 fa fb fo ft al bs (by omega) (by omega) i (by omega) (rows (gD al) (gD bs) i).1 (rows (gD al) (gD bs) i).2 (tw i) (fun k hk => row_range _ _ i k (by omega) (by omega))
            (fun h => by
              obtain ⟨j, rfl⟩ : ∃ j, i = j + 1 := ⟨i - 1, by omega⟩
              rw [htw, if_neg (by omega), hrw, hnb]; rfl)
            (fun h k hk => by
              obtain ⟨j, rfl⟩ : ∃ j, i = j + 1 := ⟨i - 1, by omega⟩
              exact row_range _ _ j k (by omega) (by omega))
            (fun k hk => row_range (gD al) (gD bs) (i + 1) k (by omega) (by omega))
          rw [hnb] at h
          rw [hrw, hrw]
          exact h)
    obtain ⟨q1, g1⟩ := key false false false false
    obtain ⟨q2, g2⟩ := key false false false true
    obtain ⟨q3, g3⟩ := key false false true false
    obtain ⟨q4, g4⟩ := key false false true true
    obtain ⟨q5, g5⟩ := key false true false false
    obtain ⟨q6, g6⟩ := key false true false true
    obtain ⟨q7, g7⟩ := key false true true false
    obtain ⟨q8, g8⟩ := key false true true true
    obtain ⟨q9, g9⟩ := key true false false false
    obtain ⟨q10, g10⟩ := key true false false true
    obtain ⟨q11, g11⟩ := key true false true false
    obtain ⟨q12, g12⟩ := key true false true true
    obtain ⟨q13, g13⟩ := key true true false false
    obtain ⟨q14, g14⟩ := key true true false true
    obtain ⟨q15, g15⟩ := key true true true false
    obtain ⟨q16, g16⟩ := key true true true true
    refine ⟨q1 + q2 + q3 + q4 + q5 + q6 + q7 + q8 + q9 + q10 + q11 + q12 + q13 + q14 + q15 + q16, fun N hN i hi fa fb fo ft => ?_⟩
    cases fa <;> cases fb <;> cases fo <;> cases ft
    · exact g1 N (by omega) i hi
    · exact g2 N (by omega) i hi
    · exact g3 N (by omega) i hi
    · exact g4 N (by omega) i hi
    · exact g5 N (by omega) i hi
    · exact g6 N (by omega) i hi
    · exact g7 N (by omega) i hi
    · exact g8 N (by omega) i hi
    · exact g9 N (by omega) i hi
    · exact g10 N (by omega) i hi
    · exact g11 N (by omega) i hi
    · exact g12 N (by omega) i hi
    · exact g13 N (by omega) i hi
    · exact g14 N (by omega) i hi
    · exact g15 N (by omega) i hi
    · exact g16 N (by omega) i hi
  obtain ⟨N, hN⟩ : ∃ N, N = k1 + k2 + k3 + m + n + 3 := ⟨_, rfl⟩
  refine Plays.wp (vf := v8) rfl rfl ⟨N, fun A call hA hcall => ?_⟩
  have h1 := h1 N (by omega)
  have h2 := h2 N (by omega)
  have h3 := h3 N (by omega)
  rw [← hcall] at h1 h2 h3
  obtain ⟨ix, hix⟩ : ∃ ix : Nat → Int, ∀ i, ix i = i := ⟨_, fun _ => rfl⟩
  obtain ⟨K, hK⟩ : ∃ K : Nat → Int, ∀ k, K k = ((k + 1 : Nat) : Int) := ⟨_, fun _ => rfl⟩
  obtain ⟨es, hes⟩ : ∃ es, es = encI al := ⟨_, rfl⟩
  obtain ⟨fs, hfs⟩ : ∃ fs, fs = encI bs := ⟨_, rfl⟩
  obtain ⟨ro, hro⟩ : ∃ ro : Nat → List (List IV), ∀ i, ro i = encI (rw' i) := ⟨_, fun _ => rfl⟩
  obtain ⟨to, hto⟩ : ∃ to : Nat → List (List IV), ∀ i, to i = encI (tw i) := ⟨_, fun _ => rfl⟩
  obtain ⟨tl, htl⟩ : ∃ tl : Nat → Nat, ∀ i, tl i = (tw i).length := ⟨_, fun _ => rfl⟩
  obtain ⟨n1, hn1⟩ : ∃ n1, n1 = n + 1 := ⟨_, rfl⟩
  simp only [slI, ← hK, ← hro, ← hto, ← hes, ← hfs, ← hn1] at h1 h2 h3
  obtain ⟨M, hM⟩ : ∃ v : Int, v = m := ⟨_, rfl⟩
  obtain ⟨NN, hNN⟩ : ∃ v : Int, v = n := ⟨_, rfl⟩
  have o1 : A .ofN m = M := by rw [hA, hM]; rfl
  have o2 : A .ofN n = NN := by rw [hA, hNN]; rfl
  have mi1 : A .mi M 64 = M := miR hA (by omega)
  have mi2 : A .mi NN 64 = NN := miR hA (by omega)
  have c1 : A .cuts 0 m (A .ln es) none (some M) none = some (0, m) := by
    rw [hA, hes, real_ln, encI_len, hma, hM, real_cuts]; simp [rCuts, rBound]
  have c2 : A .cuts 0 n (A .ln fs) none (some NN) none = some (0, n) := by
    rw [hA, hfs, real_ln, encI_len, hnb, hNN, real_cuts]; simp [rCuts, rBound]
  have s1 : A .seg es 0 m = es := by rw [hA, hes, ← hma]; exact seg_I al
  have s2 : A .seg fs 0 n = fs := by rw [hA, hfs, ← hnb]; exact seg_I bs
  have s3 : ∀ i, A .seg (ro i) 0 n1 = ro i := fun i => by rw [hA, hro, hn1, ← hrl i]; exact seg_I _
  have s4 : ∀ i, A .seg (to i) 0 (tl i) = to i := fun i => by rw [hA, hto, htl]; exact seg_I _
  obtain ⟨N1, hN1⟩ : ∃ v : Int, v = n1 := ⟨_, rfl⟩
  have ad : A .ar .add .i64 NN 1 = N1 := addR hA (by omega) (by omega)
  obtain ⟨so, hso⟩ : ∃ so : Nat → List (List IV), ∀ j, so j = encI (rowL (fun k => (k : Int)) j) := ⟨_, fun _ => rfl⟩
  have happ : ∀ j, j < n1 → A .apo 8 0 j (so j) [[.int .i64 (ix j)]] = some (true, so (j + 1)) ∧ A .ln (so (j + 1)) = j + 1 := fun j hj => by
    rw [hA, hso, hso, hix]
    have h := apo_I (l := rowL (fun k => (k : Int)) j) (v := j) (by rw [rowL_len]; omega)
    rw [rowL_len] at h
    exact ⟨by rw [h, rowL_succ _ j], by rw [real_ln, encI_len, rowL_len]⟩
  have hs0 : so n1 = ro 0 := by rw [hso, hro, hrw, hn1]; rfl
  have ht0 : to 0 = [] ∧ tl 0 = 0 := by rw [hto, htl, htw, if_pos rfl]; exact ⟨rfl, rfl⟩
  have hts : ∀ i, to (i + 1) = ro i ∧ tl (i + 1) = n1 := fun i => by
    rw [hto, htl, htw, if_neg (by omega), hro, hn1, show i + 1 - 1 = i by omega, hrl]; exact ⟨rfl, rfl⟩
  have hlast : A .at_ NN n1 = some n ∧ A .getN (ro m) n = some [.int .i64 (dist al bs)] := by
    refine ⟨by rw [hA, hNN, hn1, real_at]; simp [rIdx]; omega, ?_⟩
    rw [hA, hro, encI_getN (by rw [hrl]; omega)]
    have : gD (rw' m) n = dist al bs := by rw [hrw, rowL_get _ (by omega), dist, hma, hnb]
    rw [gD] at this
    rw [this]
  generalize dist al bs = D at *
  apply wpV_seq; refine wpV_of (by ((conv => lhs; cbv); (try (with_reducible rfl)))) ?_
  apply wpV_seq; refine wpV_of (by ((conv => lhs; cbv); (repeat ((first | rewrite [h1] | rewrite [h2]); (try (conv => lhs; cbv)))); (try (with_reducible rfl)))) ?_
  apply wpV_seq; refine wpV_of (by ((conv => lhs; cbv); (repeat ((first | rewrite [o1] | rewrite [mi1] | rewrite [c1] | rewrite [o2] | rewrite [mi2] | rewrite [c2]); (try (conv => lhs; cbv)))); (try (with_reducible rfl)))) ?_
  apply wpV_seq; refine wpV_of (by ((conv => lhs; cbv); (try (with_reducible rfl)))) ?_
  apply wpV_seq; apply wpV_seq; refine wpV_of (by ((conv => lhs; cbv); (repeat ((first | rewrite [o2] | rewrite [ad]); (try (conv => lhs; cbv)))); (try (with_reducible rfl)))) ?_
  apply wpV_block
  refine wpV_loop n1 (fun j st => st = ⟨0, [u, u, u, u, u, .one (.slo 0 0 m), .one (.slo 1 0 n), .one (.slo 2 0 j), .one (.slo 3 0 0), u, u, u, u, u, u, u, u, u, u, u, u, u, u, u, u, u, u, i64 N1, i64 (ix j), u, u, u, u, u, u, u, u, u, u, u, u, u, u, u, u, u, u, u, u, u, u, u, u, u], [.arr false false 1 es, .arr false false 1 fs, .arr false false 1 (so j), .arr false false 1 []]⟩) (by omega) (by ((conv => lhs; cbv); (repeat ((first | rewrite [o2] | rewrite [ad]); (try (conv => lhs; cbv)))); (try (with_reducible rfl)))) (by rw [hix, hso, o2, ad]; rfl) ?_
  rintro j hj st rfl
  by_cases hjn : j < n1
  · have l1 : A .cmp .lss (ix j) N1 = true := ltT hA (by rw [hix]; omega)
    have inc : A .ar .add .i64 (ix j) 1 = ix (j + 1) := addR hA (by rw [hix, hix]; omega) (by rw [hix]; omega)
    obtain ⟨a1, a2⟩ := happ j hjn
    refine wpV_of (by ((conv => lhs; cbv); (repeat ((first | rewrite [l1] | rewrite [a1] | rewrite [a2]); (try (conv => lhs; cbv)))); (try (with_reducible rfl)))) ?_
    refine headQ_of (by ((conv => lhs; cbv); (try (with_reducible rfl)))) ?_
    exact ⟨hjn, (by ((repeat (first | rewrite [inc] | rewrite [a2])); (try rfl)))⟩
  · obtain rfl : j = n1 := by omega
    have l1 : A .cmp .lss (ix j) N1 = false := ltF hA (by rw [hix]; omega)
    refine wpV_of (by ((conv => lhs; cbv); (repeat ((first | rewrite [l1]); (try (conv => lhs; cbv)))); (try (with_reducible rfl)))) ?_
    show wpV _ _ _ _ _ _
    rw [hs0]
    apply wpV_seq; apply wpV_seq; refine wpV_of (by ((conv => lhs; cbv); (try (with_reducible rfl)))) ?_
    apply wpV_block
    refine wpV_loop m (fun i st => ∃ fa fb fo ft, st = ⟨0, [u, u, u, u, u, .one (.slo 0 0 m), .one (.slo 1 0 n), .one (.slo 2 0 j), .one (.slo 3 0 (tl i)), u, i64 (K i), u, u, u, u, u, u, u, u, u, u, u, u, u, u, u, u, u, u, u, u, u, u, u, u, u, u, u, u, u, u, u, u, u, u, u, u, u, u, u, u, u, u, u], [.arr fa false 1 es, .arr fb false 1 fs, .arr fo false 1 (ro i), .arr ft false 1 (to i)]⟩) (by omega) (by ((conv => lhs; cbv); (try (with_reducible rfl)))) ⟨false, false, false, false, by rw [hK, ht0.1, ht0.2]; rfl⟩ ?_
    rintro i hi st ⟨fa, fb, fo, ft, rfl⟩
    by_cases him : i < m
    · have l1 : A .cmp .leq (K i) M = true := leT hA (by rw [hK]; omega)
      have inc : A .ar .add .i64 (K i) 1 = K (i + 1) := addR hA (by rw [hK, hK]; omega) (by rw [hK]; omega)
      have k26 := h3 i him (A .isE es) (A .isE fs) (A .isE (ro i)) (A .isE (to i))
      have s3i := s3 i
      have s4i := s4 i
      obtain ⟨q1, q2⟩ := hts i
      refine wpV_of (by ((conv => lhs; cbv); (repeat ((first | rewrite [o1] | rewrite [l1] | rewrite [s1] | rewrite [s2] | rewrite [s3i] | rewrite [s4i] | rewrite [k26]); (try (conv => lhs; cbv)))); (try (with_reducible rfl)))) ?_
      refine headQ_of (by ((conv => lhs; cbv); (try (with_reducible rfl)))) ?_
      exact ⟨him, true, true, false, true, (by ((repeat (first | rewrite [inc] | rewrite [q1] | rewrite [q2])); (try rfl)))⟩
    · obtain rfl : i = m := by omega
      have l1 : A .cmp .leq (K i) M = false := leF hA (by rw [hK]; omega)
      refine wpV_of (by ((conv => lhs; cbv); (repeat ((first | rewrite [o1] | rewrite [l1]); (try (conv => lhs; cbv)))); (try (with_reducible rfl)))) ?_
      show wpV _ _ _ _ _ _
      (refine wpV_of (by ((conv => lhs; cbv); (repeat ((first | rewrite [o2] | rewrite [hlast.1] | rewrite [hlast.2]); (try (conv => lhs; cbv)))); (try (with_reducible rfl)))) ?_; (show finV _ _ _ = some _; ((conv => lhs; cbv); (repeat ((first | rewrite [o2] | rewrite [hlast.1] | rewrite [hlast.2]); (try (conv => lhs; cbv)))); (try (with_reducible rfl))); (try rfl)))
end Go.Proofs.Ytinobfilomhhhaa
