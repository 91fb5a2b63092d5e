/- scholiaref03.Next, gone through. -/
import Derived.Test.YtanpphoehajcgaaUTD
set_option linter.unusedSimpArgs false
set_option linter.unusedVariables false
set_option maxRecDepth 100000
set_option maxHeartbeats 8000000
set_option cbv.maxSteps 10000000
namespace Go.Proofs.Ytanpphoehajcgaa
open Go GoV

def kx : Nat → Int
  | 0 => 0
  | 1 => 1
  | 2 => 2
  | 3 => 3
  | _ => 4
def ky : Nat → Int
  | 0 => 1
  | 1 => 2
  | 2 => 3
  | 3 => 4
  | _ => 5
theorem p85 (s : ByteArray) (hs : s.size ≤ 1000000000) (i : Nat) (hi : i < s.size) : Pl 85 [.one (.iv (.str s)), i64 i] (tupF (nxt s i).1 (nxt s i).2) [] := by
  obtain ⟨L, hL⟩ : ∃ L : Nat, s.size - i = L := ⟨_, rfl⟩
  obtain ⟨ra, hra⟩ := bt_range s i
  obtain ⟨rb, hrb⟩ := bt_range s (i + 1)
  obtain ⟨rc, hrc⟩ := bt_range s (i + 2)
  obtain ⟨rd, hrd⟩ := bt_range s (i + 3)
  have hmatch := match_nx (n := L) ⟨ra, hra⟩ ⟨rb, hrb⟩ ⟨rc, hrc⟩ ⟨rd, hrd⟩
  have hno := nomatch_nx (n := L) (by omega) ⟨ra, hra⟩ ⟨rb, hrb⟩ ⟨rc, hrc⟩ ⟨rd, hrd⟩
  have hnxt : nxt s i = nx L (bt s i) (bt s (i + 1)) (bt s (i + 2)) (bt s (i + 3)) := by rw [nxt, hL]
  obtain ⟨R, hR⟩ : ∃ R, R = sx s i s.size := ⟨_, rfl⟩
  have hRs : R.size = L := by rw [hR, sx_size s i s.size (by omega) (Nat.le_refl _), hL]
  have hbR : ∀ j, j < L → bt R j = bt s (i + j) := fun j hj => by rw [hR, bt_sx s (Nat.le_refl _) (by omega)]
  have hT : ∀ k, k < 4 → k + 1 ≤ L → bsOf (sx R 0 (k + 1)) = bK (bt s i) (bt s (i + 1)) (bt s (i + 2)) (bt s (i + 3)) k := fun k hk hl => by
    rw [bsOf_sx R (by omega)]
    rcases (by omega : k = 0 ∨ k = 1 ∨ k = 2 ∨ k = 3) with rfl | rfl | rfl | rfl
    · show [bt R (0 + 0)] = _
      rw [hbR _ (by omega)]; rfl
    · show [bt R (0 + 0), bt R (0 + 1)] = _
      rw [hbR _ (by omega), hbR _ (by omega)]; rfl
    · show [bt R (0 + 0), bt R (0 + 1), bt R (0 + 2)] = _
      rw [hbR _ (by omega), hbR _ (by omega), hbR _ (by omega)]; rfl
    · show [bt R (0 + 0), bt R (0 + 1), bt R (0 + 2), bt R (0 + 3)] = _
      rw [hbR _ (by omega), hbR _ (by omega), hbR _ (by omega), hbR _ (by omega)]; rfl
  rw [hnxt]
  have hb0 : 1 ≤ L → bt R 0 = bt s i := fun h => hbR 0 (by omega)
  have hb1 : 2 ≤ L → bt R 1 = bt s (i + 1) := fun h => hbR 1 (by omega)
  have hb2 : 3 ≤ L → bt R 2 = bt s (i + 2) := fun h => hbR 2 (by omega)
  have hb3 : 4 ≤ L → bt R 3 = bt s (i + 3) := fun h => hbR 3 (by omega)
  clear hbR hnxt
  generalize bt s i = a at *
  generalize bt s (i + 1) = b at *
  generalize bt s (i + 2) = c at *
  generalize bt s (i + 3) = d at *
  obtain ⟨x, hx⟩ : ∃ x, x = nx L a b c d := ⟨_, rfl⟩
  rw [← hx] at hmatch hno ⊢
  obtain ⟨x1, x2⟩ := x
  dsimp only
  -- the numbers that are tried
  obtain ⟨v1, hv1⟩ : ∃ v, v = b % 64 := ⟨_, rfl⟩
  obtain ⟨v2, hv2⟩ : ∃ v, v = c % 64 := ⟨_, rfl⟩
  obtain ⟨v3, hv3⟩ : ∃ v, v = d % 64 := ⟨_, rfl⟩
  obtain ⟨r, hr⟩ : ∃ r : Nat → Int, r = rK a b c d := ⟨_, rfl⟩
  obtain ⟨k1, h1⟩ := (p112 rb hrb).at pr_mono
  obtain ⟨k2, h2⟩ := (p112 rc hrc).at pr_mono
  obtain ⟨k3, h3⟩ := (p112 rd hrd).at pr_mono
  obtain ⟨k4, h4⟩ := Plays.all pr_mono (T := lookT tab) (pr := fun _ => clonePr clones) (f := 113) (vs := fun j => [i64 (r j)]) (bs := fun _ => []) (r := fun j => (.one (.iv (.sl true (zB (r j)) (encB (bytesOf (r j))))), [])) (m := 4) (fun j _ => p113 (r j))
  obtain ⟨N, hN⟩ : ∃ N, N = k1 + k2 + k3 + k4 + 5 := ⟨_, rfl⟩
  refine Plays.wp (vf := v85) rfl rfl ⟨N, fun A call hA hcall => ?_⟩
  have h1 := h1 N (by omega)
  have h2 := h2 N (by omega)
  have h3 := h3 N (by omega)
  have h4 := h4 N (by omega)
  rw [← hcall] at h1 h2 h3 h4
  rw [← hv1] at h1
  rw [← hv2] at h2
  rw [← hv3] at h3
  obtain ⟨ii, hii⟩ : ∃ ii : Int, ii = i := ⟨_, rfl⟩
  obtain ⟨S, hS⟩ : ∃ S : Int, S = s.size := ⟨_, rfl⟩
  obtain ⟨LL, hLL⟩ : ∃ LL : Int, LL = L := ⟨_, rfl⟩
  have hsl : A .slen s = S := by rw [hA, hS]; rfl
  have hslR : A .slen R = LL := by rw [hA, hLL, ← hRs]; rfl
  have hext : A .sext s (some ii) none = some R := by rw [hA, hii, sext_lo (by omega), hR]
  have i0 : 1 ≤ L → A .sidx R 0 = some a := fun h => by rw [hA, sidx_real (by omega) (by omega)]; exact congrArg some (hb0 h)
  have i1 : 2 ≤ L → A .sidx R 1 = some b := fun h => by rw [hA, sidx_real (by omega) (by omega)]; exact congrArg some (hb1 h)
  have i2 : 3 ≤ L → A .sidx R 2 = some c := fun h => by rw [hA, sidx_real (by omega) (by omega)]; exact congrArg some (hb2 h)
  have i3 : 4 ≤ L → A .sidx R 3 = some d := fun h => by rw [hA, sidx_real (by omega) (by omega)]; exact congrArg some (hb3 h)
  have hb2s : ∀ j, A .b2s (encB (bytesOf (r j))) = some (mkB (bytesOf (r j))) := fun j => by rw [hA, b2s_real]
  have hcut : ∀ j : Nat, j + 1 ≤ L → A .sext R none (some ((j + 1 : Nat) : Int)) = some (sx R 0 (j + 1)) := fun j hj => by rw [hA, sext_hi (by omega)]
  have hcmp : ∀ j, j < 4 → j + 1 ≤ L → A .scmp .eql (mkB (bytesOf (r j))) (sx R 0 (j + 1)) = decide (bytesOf (r j) = bK a b c d j) := fun j h h' => by rw [hA, scmp_real bytesOf_range, hT j h h']
  have hok : ∀ j, okE (zB (r j)) 1 = true := fun j => by unfold zB; cases isSign (r j) <;> rfl
  obtain ⟨es, hes⟩ : ∃ es : Nat → List (List IV), ∀ j, es j = encB (bytesOf (r j)) := ⟨_, fun _ => rfl⟩
  obtain ⟨st, hst⟩ : ∃ st : Nat → ByteArray, ∀ j, st j = mkB (bytesOf (r j)) := ⟨_, fun _ => rfl⟩
  obtain ⟨T, hTT⟩ : ∃ T : Nat → ByteArray, ∀ j, T j = sx R 0 (j + 1) := ⟨_, fun _ => rfl⟩
  obtain ⟨zz, hzz⟩ : ∃ zz : Nat → Nat, ∀ j, zz j = zB (r j) := ⟨_, fun _ => rfl⟩
  simp only [← hes, ← hst, ← hTT, ← hzz] at h4 hb2s hcut hcmp hok
  have hmatch' : ∀ j, j < 4 → j + 1 ≤ L → bytesOf (r j) = bK a b c d j → x1 = r j ∧ x2 = ((j + 1 : Nat) : Int) := fun j h h' e => by
    have := hmatch j h h' (by rw [← hr]; exact e)
    simp only [Prod.mk.injEq] at this
    rw [hr]; exact this
  have hno' : (∀ j, j < 4 → j + 1 ≤ L → ¬ bytesOf (r j) = bK a b c d j) → x1 = -1 ∧ x2 = 1 := fun h => by
    have := hno (fun j h1 h2 => by rw [← hr]; exact h j h1 h2)
    simpa using this
  have er0 : r 0 = a := by rw [hr]; rfl
  obtain ⟨p2, hp2⟩ : ∃ v, v = a % 32 := ⟨_, rfl⟩
  obtain ⟨q2, hq2⟩ : ∃ v, v = p2 * 64 := ⟨_, rfl⟩
  have er1 : r 1 = q2 + v1 := by rw [hr, hq2, hp2, hv1]; rfl
  obtain ⟨p3, hp3⟩ : ∃ v, v = a % 16 := ⟨_, rfl⟩
  obtain ⟨q3, hq3⟩ : ∃ v, v = p3 * 4096 := ⟨_, rfl⟩
  obtain ⟨w1, hw1⟩ : ∃ v, v = v1 * 64 := ⟨_, rfl⟩
  obtain ⟨t3, ht3⟩ : ∃ v, v = q3 + w1 := ⟨_, rfl⟩
  have er2 : r 2 = t3 + v2 := by rw [hr, ht3, hq3, hp3, hw1, hv1, hv2]; rfl
  obtain ⟨p4, hp4⟩ : ∃ v, v = a % 8 := ⟨_, rfl⟩
  obtain ⟨q4, hq4⟩ : ∃ v, v = p4 * 262144 := ⟨_, rfl⟩
  obtain ⟨x4, hx4⟩ : ∃ v, v = v1 * 4096 := ⟨_, rfl⟩
  obtain ⟨t4, ht4⟩ : ∃ v, v = q4 + x4 := ⟨_, rfl⟩
  obtain ⟨w2, hw2⟩ : ∃ v, v = v2 * 64 := ⟨_, rfl⟩
  obtain ⟨u4, hu4⟩ : ∃ v, v = t4 + w2 := ⟨_, rfl⟩
  have er3 : r 3 = u4 + v3 := by rw [hr, hu4, ht4, hq4, hp4, hx4, hv1, hw2, hv2, hv3]; rfl
  clear hb0 hb1 hb2 hb3 hT hmatch hno hx hr hes hst hTT hzz hR
  have ck := ckI hA (a := a) (by omega)
  have c31 := nzR hA (a := 32) (by decide)
  have c63 := nzR hA (a := 16) (by decide)
  have c43 := nzR hA (a := 8) (by decide)
  have f1 := remR hA (a := a) (b := 32) ra hp2
  have f2 := mulR hA hq2 (by omega)
  have f3 := addR hA er1 (by omega)
  have g1 := remR hA (a := a) (b := 16) ra hp3
  have g2 := mulR hA hq3 (by omega)
  have g3 := mulR hA hw1 (by omega)
  have g4 := addR hA ht3 (by omega)
  have g5 := addR hA er2 (by omega)
  have e1 := remR hA (a := a) (b := 8) ra hp4
  have e2 := mulR hA hq4 (by omega)
  have e3 := mulR hA hx4 (by omega)
  have e4 := addR hA ht4 (by omega)
  have e5 := mulR hA hw2 (by omega)
  have e6 := addR hA hu4 (by omega)
  have e7 := addR hA er3 (by omega)
  have n1 : A .ar .add .i64 0 1 = 1 := addR hA rfl (by omega)
  have n2 : A .ar .add .i64 1 1 = 2 := addR hA rfl (by omega)
  have n3 : A .ar .add .i64 2 1 = 3 := addR hA rfl (by omega)
  have n4 : A .ar .add .i64 3 1 = 4 := addR hA rfl (by omega)
  have lt4 : ∀ j, j < 4 → A .cmp .lss (kx j) 4 = true := fun j hj => ltT hA (by rcases (by omega : j = 0 ∨ j = 1 ∨ j = 2 ∨ j = 3) with rfl | rfl | rfl | rfl <;> decide)
  rw [← hii]
  apply wpV_seq; refine wpV_of (by ((conv => lhs; cbv); (try (with_reducible rfl)))) ?_
  apply wpV_seq; refine wpV_of (by ((conv => lhs; cbv); (repeat ((first | rewrite [ltF hA (a := ii) (b := 0) (by omega)] | rewrite [hsl] | rewrite [geF hA (a := ii) (b := S) (by omega)]); (try (conv => lhs; cbv)))); (try (with_reducible rfl)))) ?_
  apply wpV_seq; refine wpV_of (by ((conv => lhs; cbv); (repeat ((first | rewrite [hext]); (try (conv => lhs; cbv)))); (try (with_reducible rfl)))) ?_
  apply wpV_seq; apply wpV_seq; refine wpV_of (by ((conv => lhs; cbv); (try (with_reducible rfl)))) ?_
  apply wpV_block
  refine wpV_loop 4 (fun k st => (∀ j, j < k → ¬ bytesOf (r j) = bK a b c d j) ∧ st = ⟨0, (u :: u :: u :: u :: u :: u :: .one (.iv (.str R)) :: u :: u :: u :: u :: u :: u :: u :: u :: u :: u :: u :: u :: u :: u :: i64 (kx k) :: u :: u :: u :: u :: u :: u :: u :: u :: u :: u :: u :: u :: u :: u :: u :: u :: u :: u :: u :: u :: u :: u :: u :: u :: u :: u :: u :: u :: u :: u :: u :: u :: u :: u :: u :: u :: u :: u :: u :: u :: u :: u :: u :: u :: u :: u :: u :: u :: u :: u :: u :: u :: u :: u :: u :: u :: u :: u :: u :: u :: u :: u :: u :: u :: u :: u :: u :: u :: u :: u :: u :: []), []⟩) (by omega) (by ((conv => lhs; cbv); (try (with_reducible rfl)))) ⟨fun j hj => by omega, by rfl⟩ ?_
  rintro k hk st0 ⟨hbad, rfl⟩
  by_cases hk4 : k < 4
  · have l4 := lt4 k hk4
    have z1 := hok k
    have b2 := hb2s k
    have cm := hcmp k hk4
    have ct := hcut k
    have mm := hmatch' k hk4
    have cl := h4 k hk4
    have fin : (∀ j, j < k → ¬ bytesOf (r j) = bK a b c d j) → LL < kx k + 1 → x1 = -1 ∧ x2 = 1 := fun hb hl => hno' fun j hj h => by
      by_cases hjk : j < k
      · exact hb j hjk
      · exfalso; rcases (by omega : k = 0 ∨ k = 1 ∨ k = 2 ∨ k = 3) with rfl | rfl | rfl | rfl <;> simp only [kx] at hl <;> omega
    by_cases hl : LL < kx k + 1
    · obtain ⟨rfl, rfl⟩ := fin hbad hl
      rcases (by omega : k = 0 ∨ k = 1 ∨ k = 2 ∨ k = 3) with rfl | rfl | rfl | rfl <;> simp only [kx] at l4 hl
      · (refine wpV_of (by ((conv => lhs; cbv); (repeat ((first | rewrite [l4] | rewrite [n1] | rewrite [hslR] | rewrite [gtT hA (a := 1) (b := LL) (by omega)]); (try (conv => lhs; cbv)))); (try (with_reducible rfl)))) ?_; (show finV _ _ _ = some _; ((conv => lhs; cbv); (repeat ((first | rewrite [l4] | rewrite [n1] | rewrite [hslR] | rewrite [gtT hA (a := 1) (b := LL) (by omega)]); (try (conv => lhs; cbv)))); (try (with_reducible rfl))); (try rfl)))
      · (refine wpV_of (by ((conv => lhs; cbv); (repeat ((first | rewrite [l4] | rewrite [n2] | rewrite [hslR] | rewrite [gtT hA (a := 2) (b := LL) (by omega)]); (try (conv => lhs; cbv)))); (try (with_reducible rfl)))) ?_; (show finV _ _ _ = some _; ((conv => lhs; cbv); (repeat ((first | rewrite [l4] | rewrite [n2] | rewrite [hslR] | rewrite [gtT hA (a := 2) (b := LL) (by omega)]); (try (conv => lhs; cbv)))); (try (with_reducible rfl))); (try rfl)))
      · (refine wpV_of (by ((conv => lhs; cbv); (repeat ((first | rewrite [l4] | rewrite [n3] | rewrite [hslR] | rewrite [gtT hA (a := 3) (b := LL) (by omega)]); (try (conv => lhs; cbv)))); (try (with_reducible rfl)))) ?_; (show finV _ _ _ = some _; ((conv => lhs; cbv); (repeat ((first | rewrite [l4] | rewrite [n3] | rewrite [hslR] | rewrite [gtT hA (a := 3) (b := LL) (by omega)]); (try (conv => lhs; cbv)))); (try (with_reducible rfl))); (try rfl)))
      · (refine wpV_of (by ((conv => lhs; cbv); (repeat ((first | rewrite [l4] | rewrite [n4] | rewrite [hslR] | rewrite [gtT hA (a := 4) (b := LL) (by omega)]); (try (conv => lhs; cbv)))); (try (with_reducible rfl)))) ?_; (show finV _ _ _ = some _; ((conv => lhs; cbv); (repeat ((first | rewrite [l4] | rewrite [n4] | rewrite [hslR] | rewrite [gtT hA (a := 4) (b := LL) (by omega)]); (try (conv => lhs; cbv)))); (try (with_reducible rfl))); (try rfl)))
    · have hkL : k + 1 ≤ L := by
        rcases (by omega : k = 0 ∨ k = 1 ∨ k = 2 ∨ k = 3) with rfl | rfl | rfl | rfl <;> simp only [kx] at hl <;> omega
      have cm := cm hkL
      have ct := ct hkL
      rw [show (((k + 1 : Nat)) : Int) = ky k by rcases (by omega : k = 0 ∨ k = 1 ∨ k = 2 ∨ k = 3) with rfl | rfl | rfl | rfl <;> rfl] at ct
      have mm := mm hkL
      have nextI : ¬ bytesOf (r k) = bK a b c d k → ∀ j, j < k + 1 → ¬ bytesOf (r j) = bK a b c d j := fun h j hj => by
        by_cases e : j = k
        · rw [e]; exact h
        · exact hbad j (by omega)
      generalize hz : zz k = zk at *
      generalize he : es k = ek at *
      generalize ht : st k = tk at *
      generalize hT : T k = Tk at *
      have zc : zk = 0 ∨ zk = 1 := by
        rcases zk with _ | _ | zk
        · exact .inl rfl
        · exact .inr rfl
        · exact absurd z1 (by simp [okE])
      rcases (by omega : k = 0 ∨ k = 1 ∨ k = 2 ∨ k = 3) with rfl | rfl | rfl | rfl <;> simp only [kx] at l4 hl <;> simp only [ky] at ct
      · rw [er0] at cl
        apply wpV_seq; refine wpV_of (by ((conv => lhs; cbv); (try (with_reducible rfl)))) ?_
        apply wpV_seq; refine wpV_of (by ((conv => lhs; cbv); (repeat ((first | rewrite [l4]); (try (conv => lhs; cbv)))); (try (with_reducible rfl)))) ?_
        apply wpV_seq; apply wpV_block
        apply wpV_seq; refine wpV_of (by ((conv => lhs; cbv); (try (with_reducible rfl)))) ?_
        apply wpV_seq; refine wpV_of (by ((conv => lhs; cbv); (repeat ((first | rewrite [n1]); (try (conv => lhs; cbv)))); (try (with_reducible rfl)))) ?_
        apply wpV_seq; refine wpV_of (by ((conv => lhs; cbv); (repeat ((first | rewrite [n1] | rewrite [hslR] | rewrite [gtF hA (a := 1) (b := LL) (by omega)]); (try (conv => lhs; cbv)))); (try (with_reducible rfl)))) ?_
        apply wpV_seq; refine wpV_of (by ((conv => lhs; cbv); (try (with_reducible rfl)))) ?_
        apply wpV_seq; refine wpV_of (by ((conv => lhs; cbv); (repeat ((first | rewrite [eqT hA (a := 1) (b := 1) rfl] | rewrite [i0 (by omega)] | rewrite [ck]); (try (conv => lhs; cbv)))); (try (with_reducible rfl)))) ?_
        apply wpV_seq; refine wpV_of (by ((conv => lhs; cbv); (repeat ((first | rewrite [eqF hA (a := 1) (b := 2) (by omega)]); (try (conv => lhs; cbv)))); (try (with_reducible rfl)))) ?_
        apply wpV_seq; refine wpV_of (by ((conv => lhs; cbv); (repeat ((first | rewrite [eqF hA (a := 1) (b := 3) (by omega)]); (try (conv => lhs; cbv)))); (try (with_reducible rfl)))) ?_
        apply wpV_seq; refine wpV_of (by ((conv => lhs; cbv); (repeat ((first | rewrite [eqF hA (a := 1) (b := 4) (by omega)]); (try (conv => lhs; cbv)))); (try (with_reducible rfl)))) ?_
        rcases zc with rfl | rfl
        · apply wpV_seq; refine wpV_of (by ((conv => lhs; cbv); (repeat ((first | rewrite [er0] | rewrite [ck] | rewrite [cl] | rewrite [b2] | rewrite [ct]); (try (conv => lhs; cbv)))); (try (with_reducible rfl)))) ?_
          by_cases hmt : bytesOf (r 0) = bK a b c d 0
          · rw [decide_eq_true hmt] at cm
            obtain ⟨rfl, rfl⟩ := mm hmt
            rw [er0]
            (refine wpV_of (by ((conv => lhs; cbv); (repeat ((first | rewrite [cm]); (try (conv => lhs; cbv)))); (try (with_reducible rfl)))) ?_; (show finV _ _ _ = some _; ((conv => lhs; cbv); (repeat ((first | rewrite [cm]); (try (conv => lhs; cbv)))); (try (with_reducible rfl))); (try rfl)))
          · rw [decide_eq_false hmt] at cm
            refine wpV_of (by ((conv => lhs; cbv); (repeat ((first | rewrite [cm]); (try (conv => lhs; cbv)))); (try (with_reducible rfl)))) ?_
            show wpV _ _ _ _ _ _
            refine wpV_of (by ((conv => lhs; cbv); (repeat ((first | rewrite [n1]); (try (conv => lhs; cbv)))); (try (with_reducible rfl)))) ?_
            refine headQ_of (by ((conv => lhs; cbv); (try (with_reducible rfl)))) ?_
            exact ⟨by omega, nextI hmt, (by ((rw [n1]) <;> rfl))⟩
        · apply wpV_seq; refine wpV_of (by ((conv => lhs; cbv); (repeat ((first | rewrite [er0] | rewrite [ck] | rewrite [cl] | rewrite [b2] | rewrite [ct]); (try (conv => lhs; cbv)))); (try (with_reducible rfl)))) ?_
          by_cases hmt : bytesOf (r 0) = bK a b c d 0
          · rw [decide_eq_true hmt] at cm
            obtain ⟨rfl, rfl⟩ := mm hmt
            rw [er0]
            (refine wpV_of (by ((conv => lhs; cbv); (repeat ((first | rewrite [cm]); (try (conv => lhs; cbv)))); (try (with_reducible rfl)))) ?_; (show finV _ _ _ = some _; ((conv => lhs; cbv); (repeat ((first | rewrite [cm]); (try (conv => lhs; cbv)))); (try (with_reducible rfl))); (try rfl)))
          · rw [decide_eq_false hmt] at cm
            refine wpV_of (by ((conv => lhs; cbv); (repeat ((first | rewrite [cm]); (try (conv => lhs; cbv)))); (try (with_reducible rfl)))) ?_
            show wpV _ _ _ _ _ _
            refine wpV_of (by ((conv => lhs; cbv); (repeat ((first | rewrite [n1]); (try (conv => lhs; cbv)))); (try (with_reducible rfl)))) ?_
            refine headQ_of (by ((conv => lhs; cbv); (try (with_reducible rfl)))) ?_
            exact ⟨by omega, nextI hmt, (by ((rw [n1]) <;> rfl))⟩
      · apply wpV_seq; refine wpV_of (by ((conv => lhs; cbv); (try (with_reducible rfl)))) ?_
        apply wpV_seq; refine wpV_of (by ((conv => lhs; cbv); (repeat ((first | rewrite [l4]); (try (conv => lhs; cbv)))); (try (with_reducible rfl)))) ?_
        apply wpV_seq; apply wpV_block
        apply wpV_seq; refine wpV_of (by ((conv => lhs; cbv); (try (with_reducible rfl)))) ?_
        apply wpV_seq; refine wpV_of (by ((conv => lhs; cbv); (repeat ((first | rewrite [n2]); (try (conv => lhs; cbv)))); (try (with_reducible rfl)))) ?_
        apply wpV_seq; refine wpV_of (by ((conv => lhs; cbv); (repeat ((first | rewrite [n2] | rewrite [hslR] | rewrite [gtF hA (a := 2) (b := LL) (by omega)]); (try (conv => lhs; cbv)))); (try (with_reducible rfl)))) ?_
        apply wpV_seq; refine wpV_of (by ((conv => lhs; cbv); (try (with_reducible rfl)))) ?_
        apply wpV_seq; refine wpV_of (by ((conv => lhs; cbv); (repeat ((first | rewrite [eqF hA (a := 2) (b := 1) (by omega)]); (try (conv => lhs; cbv)))); (try (with_reducible rfl)))) ?_
        apply wpV_seq; refine wpV_of (by ((conv => lhs; cbv); (repeat ((first | rewrite [eqT hA (a := 2) (b := 2) rfl] | rewrite [i0 (by omega)] | rewrite [i1 (by omega)] | rewrite [ck] | rewrite [c31] | rewrite [f1] | rewrite [f2] | rewrite [h1] | rewrite [f3]); (try (conv => lhs; cbv)))); (try (with_reducible rfl)))) ?_
        apply wpV_seq; refine wpV_of (by ((conv => lhs; cbv); (repeat ((first | rewrite [eqF hA (a := 2) (b := 3) (by omega)]); (try (conv => lhs; cbv)))); (try (with_reducible rfl)))) ?_
        apply wpV_seq; refine wpV_of (by ((conv => lhs; cbv); (repeat ((first | rewrite [eqF hA (a := 2) (b := 4) (by omega)]); (try (conv => lhs; cbv)))); (try (with_reducible rfl)))) ?_
        rcases zc with rfl | rfl
        · apply wpV_seq; refine wpV_of (by ((conv => lhs; cbv); (repeat ((first | rewrite [ck] | rewrite [i0 (by omega)] | rewrite [i1 (by omega)] | rewrite [ck] | rewrite [c31] | rewrite [f1] | rewrite [f2] | rewrite [h1] | rewrite [f3] | rewrite [cl] | rewrite [b2] | rewrite [ct]); (try (conv => lhs; cbv)))); (try (with_reducible rfl)))) ?_
          by_cases hmt : bytesOf (r 1) = bK a b c d 1
          · rw [decide_eq_true hmt] at cm
            obtain ⟨rfl, rfl⟩ := mm hmt
            (refine wpV_of (by ((conv => lhs; cbv); (repeat ((first | rewrite [cm]); (try (conv => lhs; cbv)))); (try (with_reducible rfl)))) ?_; (show finV _ _ _ = some _; ((conv => lhs; cbv); (repeat ((first | rewrite [cm]); (try (conv => lhs; cbv)))); (try (with_reducible rfl))); (try rfl)))
          · rw [decide_eq_false hmt] at cm
            refine wpV_of (by ((conv => lhs; cbv); (repeat ((first | rewrite [cm]); (try (conv => lhs; cbv)))); (try (with_reducible rfl)))) ?_
            show wpV _ _ _ _ _ _
            refine wpV_of (by ((conv => lhs; cbv); (repeat ((first | rewrite [n2]); (try (conv => lhs; cbv)))); (try (with_reducible rfl)))) ?_
            refine headQ_of (by ((conv => lhs; cbv); (try (with_reducible rfl)))) ?_
            exact ⟨by omega, nextI hmt, (by ((rw [n2]) <;> rfl))⟩
        · apply wpV_seq; refine wpV_of (by ((conv => lhs; cbv); (repeat ((first | rewrite [ck] | rewrite [i0 (by omega)] | rewrite [i1 (by omega)] | rewrite [ck] | rewrite [c31] | rewrite [f1] | rewrite [f2] | rewrite [h1] | rewrite [f3] | rewrite [cl] | rewrite [b2] | rewrite [ct]); (try (conv => lhs; cbv)))); (try (with_reducible rfl)))) ?_
          by_cases hmt : bytesOf (r 1) = bK a b c d 1
          · rw [decide_eq_true hmt] at cm
            obtain ⟨rfl, rfl⟩ := mm hmt
            (refine wpV_of (by ((conv => lhs; cbv); (repeat ((first | rewrite [cm]); (try (conv => lhs; cbv)))); (try (with_reducible rfl)))) ?_; (show finV _ _ _ = some _; ((conv => lhs; cbv); (repeat ((first | rewrite [cm]); (try (conv => lhs; cbv)))); (try (with_reducible rfl))); (try rfl)))
          · rw [decide_eq_false hmt] at cm
            refine wpV_of (by ((conv => lhs; cbv); (repeat ((first | rewrite [cm]); (try (conv => lhs; cbv)))); (try (with_reducible rfl)))) ?_
            show wpV _ _ _ _ _ _
            refine wpV_of (by ((conv => lhs; cbv); (repeat ((first | rewrite [n2]); (try (conv => lhs; cbv)))); (try (with_reducible rfl)))) ?_
            refine headQ_of (by ((conv => lhs; cbv); (try (with_reducible rfl)))) ?_
            exact ⟨by omega, nextI hmt, (by ((rw [n2]) <;> rfl))⟩
      · apply wpV_seq; refine wpV_of (by ((conv => lhs; cbv); (try (with_reducible rfl)))) ?_
        apply wpV_seq; refine wpV_of (by ((conv => lhs; cbv); (repeat ((first | rewrite [l4]); (try (conv => lhs; cbv)))); (try (with_reducible rfl)))) ?_
        apply wpV_seq; apply wpV_block
        apply wpV_seq; refine wpV_of (by ((conv => lhs; cbv); (try (with_reducible rfl)))) ?_
        apply wpV_seq; refine wpV_of (by ((conv => lhs; cbv); (repeat ((first | rewrite [n3]); (try (conv => lhs; cbv)))); (try (with_reducible rfl)))) ?_
        apply wpV_seq; refine wpV_of (by ((conv => lhs; cbv); (repeat ((first | rewrite [n3] | rewrite [hslR] | rewrite [gtF hA (a := 3) (b := LL) (by omega)]); (try (conv => lhs; cbv)))); (try (with_reducible rfl)))) ?_
        apply wpV_seq; refine wpV_of (by ((conv => lhs; cbv); (try (with_reducible rfl)))) ?_
        apply wpV_seq; refine wpV_of (by ((conv => lhs; cbv); (repeat ((first | rewrite [eqF hA (a := 3) (b := 1) (by omega)]); (try (conv => lhs; cbv)))); (try (with_reducible rfl)))) ?_
        apply wpV_seq; refine wpV_of (by ((conv => lhs; cbv); (repeat ((first | rewrite [eqF hA (a := 3) (b := 2) (by omega)]); (try (conv => lhs; cbv)))); (try (with_reducible rfl)))) ?_
        apply wpV_seq; refine wpV_of (by ((conv => lhs; cbv); (repeat ((first | rewrite [eqT hA (a := 3) (b := 3) rfl] | rewrite [i0 (by omega)] | rewrite [i1 (by omega)] | rewrite [i2 (by omega)] | rewrite [ck] | rewrite [c63] | rewrite [g1] | rewrite [g2] | rewrite [h1] | rewrite [g3] | rewrite [g4] | rewrite [h2] | rewrite [g5]); (try (conv => lhs; cbv)))); (try (with_reducible rfl)))) ?_
        apply wpV_seq; refine wpV_of (by ((conv => lhs; cbv); (repeat ((first | rewrite [eqF hA (a := 3) (b := 4) (by omega)]); (try (conv => lhs; cbv)))); (try (with_reducible rfl)))) ?_
        rcases zc with rfl | rfl
        · apply wpV_seq; refine wpV_of (by ((conv => lhs; cbv); (repeat ((first | rewrite [ck] | rewrite [i0 (by omega)] | rewrite [i1 (by omega)] | rewrite [i2 (by omega)] | rewrite [ck] | rewrite [c63] | rewrite [g1] | rewrite [g2] | rewrite [h1] | rewrite [g3] | rewrite [g4] | rewrite [h2] | rewrite [g5] | rewrite [cl] | rewrite [b2] | rewrite [ct]); (try (conv => lhs; cbv)))); (try (with_reducible rfl)))) ?_
          by_cases hmt : bytesOf (r 2) = bK a b c d 2
          · rw [decide_eq_true hmt] at cm
            obtain ⟨rfl, rfl⟩ := mm hmt
            (refine wpV_of (by ((conv => lhs; cbv); (repeat ((first | rewrite [cm]); (try (conv => lhs; cbv)))); (try (with_reducible rfl)))) ?_; (show finV _ _ _ = some _; ((conv => lhs; cbv); (repeat ((first | rewrite [cm]); (try (conv => lhs; cbv)))); (try (with_reducible rfl))); (try rfl)))
          · rw [decide_eq_false hmt] at cm
            refine wpV_of (by ((conv => lhs; cbv); (repeat ((first | rewrite [cm]); (try (conv => lhs; cbv)))); (try (with_reducible rfl)))) ?_
            show wpV _ _ _ _ _ _
            refine wpV_of (by ((conv => lhs; cbv); (repeat ((first | rewrite [n3]); (try (conv => lhs; cbv)))); (try (with_reducible rfl)))) ?_
            refine headQ_of (by ((conv => lhs; cbv); (try (with_reducible rfl)))) ?_
            exact ⟨by omega, nextI hmt, (by ((rw [n3]) <;> rfl))⟩
        · apply wpV_seq; refine wpV_of (by ((conv => lhs; cbv); (repeat ((first | rewrite [ck] | rewrite [i0 (by omega)] | rewrite [i1 (by omega)] | rewrite [i2 (by omega)] | rewrite [ck] | rewrite [c63] | rewrite [g1] | rewrite [g2] | rewrite [h1] | rewrite [g3] | rewrite [g4] | rewrite [h2] | rewrite [g5] | rewrite [cl] | rewrite [b2] | rewrite [ct]); (try (conv => lhs; cbv)))); (try (with_reducible rfl)))) ?_
          by_cases hmt : bytesOf (r 2) = bK a b c d 2
          · rw [decide_eq_true hmt] at cm
            obtain ⟨rfl, rfl⟩ := mm hmt
            (refine wpV_of (by ((conv => lhs; cbv); (repeat ((first | rewrite [cm]); (try (conv => lhs; cbv)))); (try (with_reducible rfl)))) ?_; (show finV _ _ _ = some _; ((conv => lhs; cbv); (repeat ((first | rewrite [cm]); (try (conv => lhs; cbv)))); (try (with_reducible rfl))); (try rfl)))
          · rw [decide_eq_false hmt] at cm
            refine wpV_of (by ((conv => lhs; cbv); (repeat ((first | rewrite [cm]); (try (conv => lhs; cbv)))); (try (with_reducible rfl)))) ?_
            show wpV _ _ _ _ _ _
            refine wpV_of (by ((conv => lhs; cbv); (repeat ((first | rewrite [n3]); (try (conv => lhs; cbv)))); (try (with_reducible rfl)))) ?_
            refine headQ_of (by ((conv => lhs; cbv); (try (with_reducible rfl)))) ?_
            exact ⟨by omega, nextI hmt, (by ((rw [n3]) <;> rfl))⟩
      · apply wpV_seq; refine wpV_of (by ((conv => lhs; cbv); (try (with_reducible rfl)))) ?_
        apply wpV_seq; refine wpV_of (by ((conv => lhs; cbv); (repeat ((first | rewrite [l4]); (try (conv => lhs; cbv)))); (try (with_reducible rfl)))) ?_
        apply wpV_seq; apply wpV_block
        apply wpV_seq; refine wpV_of (by ((conv => lhs; cbv); (try (with_reducible rfl)))) ?_
        apply wpV_seq; refine wpV_of (by ((conv => lhs; cbv); (repeat ((first | rewrite [n4]); (try (conv => lhs; cbv)))); (try (with_reducible rfl)))) ?_
        apply wpV_seq; refine wpV_of (by ((conv => lhs; cbv); (repeat ((first | rewrite [n4] | rewrite [hslR] | rewrite [gtF hA (a := 4) (b := LL) (by omega)]); (try (conv => lhs; cbv)))); (try (with_reducible rfl)))) ?_
        apply wpV_seq; refine wpV_of (by ((conv => lhs; cbv); (try (with_reducible rfl)))) ?_
        apply wpV_seq; refine wpV_of (by ((conv => lhs; cbv); (repeat ((first | rewrite [eqF hA (a := 4) (b := 1) (by omega)]); (try (conv => lhs; cbv)))); (try (with_reducible rfl)))) ?_
        apply wpV_seq; refine wpV_of (by ((conv => lhs; cbv); (repeat ((first | rewrite [eqF hA (a := 4) (b := 2) (by omega)]); (try (conv => lhs; cbv)))); (try (with_reducible rfl)))) ?_
        apply wpV_seq; refine wpV_of (by ((conv => lhs; cbv); (repeat ((first | rewrite [eqF hA (a := 4) (b := 3) (by omega)]); (try (conv => lhs; cbv)))); (try (with_reducible rfl)))) ?_
        apply wpV_seq; refine wpV_of (by ((conv => lhs; cbv); (repeat ((first | rewrite [eqT hA (a := 4) (b := 4) rfl] | rewrite [i0 (by omega)] | rewrite [i1 (by omega)] | rewrite [i2 (by omega)] | rewrite [i3 (by omega)] | rewrite [ck] | rewrite [c43] | rewrite [e1] | rewrite [e2] | rewrite [h1] | rewrite [e3] | rewrite [e4] | rewrite [h2] | rewrite [e5] | rewrite [e6] | rewrite [h3] | rewrite [e7]); (try (conv => lhs; cbv)))); (try (with_reducible rfl)))) ?_
        rcases zc with rfl | rfl
        · apply wpV_seq; refine wpV_of (by ((conv => lhs; cbv); (repeat ((first | rewrite [ck] | rewrite [i0 (by omega)] | rewrite [i1 (by omega)] | rewrite [i2 (by omega)] | rewrite [i3 (by omega)] | rewrite [ck] | rewrite [c43] | rewrite [e1] | rewrite [e2] | rewrite [h1] | rewrite [e3] | rewrite [e4] | rewrite [h2] | rewrite [e5] | rewrite [e6] | rewrite [h3] | rewrite [e7] | rewrite [cl] | rewrite [b2] | rewrite [ct]); (try (conv => lhs; cbv)))); (try (with_reducible rfl)))) ?_
          by_cases hmt : bytesOf (r 3) = bK a b c d 3
          · rw [decide_eq_true hmt] at cm
            obtain ⟨rfl, rfl⟩ := mm hmt
            (refine wpV_of (by ((conv => lhs; cbv); (repeat ((first | rewrite [cm]); (try (conv => lhs; cbv)))); (try (with_reducible rfl)))) ?_; (show finV _ _ _ = some _; ((conv => lhs; cbv); (repeat ((first | rewrite [cm]); (try (conv => lhs; cbv)))); (try (with_reducible rfl))); (try rfl)))
          · rw [decide_eq_false hmt] at cm
            refine wpV_of (by ((conv => lhs; cbv); (repeat ((first | rewrite [cm]); (try (conv => lhs; cbv)))); (try (with_reducible rfl)))) ?_
            show wpV _ _ _ _ _ _
            refine wpV_of (by ((conv => lhs; cbv); (repeat ((first | rewrite [n4]); (try (conv => lhs; cbv)))); (try (with_reducible rfl)))) ?_
            refine headQ_of (by ((conv => lhs; cbv); (try (with_reducible rfl)))) ?_
            exact ⟨by omega, nextI hmt, (by ((rw [n4]) <;> rfl))⟩
        · apply wpV_seq; refine wpV_of (by ((conv => lhs; cbv); (repeat ((first | rewrite [ck] | rewrite [i0 (by omega)] | rewrite [i1 (by omega)] | rewrite [i2 (by omega)] | rewrite [i3 (by omega)] | rewrite [ck] | rewrite [c43] | rewrite [e1] | rewrite [e2] | rewrite [h1] | rewrite [e3] | rewrite [e4] | rewrite [h2] | rewrite [e5] | rewrite [e6] | rewrite [h3] | rewrite [e7] | rewrite [cl] | rewrite [b2] | rewrite [ct]); (try (conv => lhs; cbv)))); (try (with_reducible rfl)))) ?_
          by_cases hmt : bytesOf (r 3) = bK a b c d 3
          · rw [decide_eq_true hmt] at cm
            obtain ⟨rfl, rfl⟩ := mm hmt
            (refine wpV_of (by ((conv => lhs; cbv); (repeat ((first | rewrite [cm]); (try (conv => lhs; cbv)))); (try (with_reducible rfl)))) ?_; (show finV _ _ _ = some _; ((conv => lhs; cbv); (repeat ((first | rewrite [cm]); (try (conv => lhs; cbv)))); (try (with_reducible rfl))); (try rfl)))
          · rw [decide_eq_false hmt] at cm
            refine wpV_of (by ((conv => lhs; cbv); (repeat ((first | rewrite [cm]); (try (conv => lhs; cbv)))); (try (with_reducible rfl)))) ?_
            show wpV _ _ _ _ _ _
            refine wpV_of (by ((conv => lhs; cbv); (repeat ((first | rewrite [n4]); (try (conv => lhs; cbv)))); (try (with_reducible rfl)))) ?_
            refine headQ_of (by ((conv => lhs; cbv); (try (with_reducible rfl)))) ?_
            exact ⟨by omega, nextI hmt, (by ((rw [n4]) <;> rfl))⟩
  · obtain rfl : k = 4 := by omega
    obtain ⟨rfl, rfl⟩ := hno' (fun j h _ => hbad j h)
    refine wpV_of (by ((conv => lhs; cbv); (repeat ((first | rewrite [ltF hA (a := 4) (b := 4) (by omega)]); (try (conv => lhs; cbv)))); (try (with_reducible rfl)))) ?_
    show wpV _ _ _ _ _ _
    (refine wpV_of (by ((conv => lhs; cbv); (try (with_reducible rfl)))) ?_; (show finV _ _ _ = some _; ((conv => lhs; cbv); (try (with_reducible rfl))); (try rfl)))
end Go.Proofs.Ytanpphoehajcgaa
