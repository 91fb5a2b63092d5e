/- A heap of numbers, gone through: taking the first one out. -/
import Derived.Test.YtlbmknejhmmjnaaSHA
set_option linter.unusedSimpArgs false
set_option linter.unusedVariables false
set_option maxRecDepth 100000
set_option maxHeartbeats 1000000
set_option cbv.maxSteps 10000000
namespace Go.Proofs.Ytlbmknejhmmjnaa
open Go GoV

theorem blk_n {id : Nat} {Q : Ex → St → Prop} {s : St} (h : Q .normal s) : blkQ id Q .normal s := by
  first | exact h | (unfold blkQ; exact h) | (simpa [blkQ] using h)
/-- Going down. -/
theorem p64 (c : List Int) (zs : List (List IV)) (hc : DnH ltB c 0) (hl : c.length ≤ 1000) (hin : ∀ y, y ∈ c → inR y) :
    ∃ r, (∃ c', Heap ltB c' ∧ c'.Perm c ∧ r = ((.tup [] : FV), hbk c.length false (c'.map e1 ++ zs))) ∧ ∀ m, 1101 ≤ m → play real (lookT tab) (fun _ => clonePr clones) m 64 [.one (.ptr 0 0)] (hbk c.length false (c.map e1 ++ zs)) = some r := by
  refine playE 1100 (vf := v64) rfl rfl fun A call hA hcall => ?_
  have k49 : ∀ a b, inR a → inR b → call 12 [i64 a, i64 b] [] = some (bl (ltB a b), []) := fun a b ha hb => by rw [hcall]; exact pL ha hb 1100 (by omega)
  obtain ⟨ar, har⟩ : ∃ ar : List Int → List (List IV) → List (List IV), ∀ c zs, ar c zs = c.map e1 ++ zs := ⟨_, fun _ _ => rfl⟩
  obtain ⟨n, hn⟩ : ∃ n, n = c.length := ⟨_, rfl⟩
  obtain ⟨N, hN⟩ : ∃ N : Int, N = n := ⟨_, rfl⟩
  have o1 := ofNR hA hN
  rw [← hn, ← har]
  apply wpV_seq; refine wpV_of (by ((conv => lhs; cbv); (try (with_reducible rfl)))) ?_
  apply wpV_block
  refine wpV_loop (n + 1) (fun j st => ∃ d i I, (DnH ltB d i ∧ j ≤ i ∧ (i < n ∨ i = 0) ∧ d.length = n ∧ d.Perm c ∧ (∀ y, y ∈ d → inR y) ∧ I = (i : Int)) ∧ st = ⟨2, (.one (.ptr 0 0) :: u :: i64 I :: u :: u :: u :: u :: u :: u :: u :: u :: u :: u :: u :: u :: u :: u :: u :: u :: u :: u :: u :: u :: u :: u :: u :: u :: u :: u :: u :: u :: u :: u :: u :: u :: u :: u :: u :: u :: u :: u :: u :: u :: u :: u :: u :: u :: u :: u :: u :: u :: u :: u :: u :: u :: u :: u :: u :: u :: u :: u :: u :: u :: u :: u :: u :: u :: u :: u :: u :: u :: u :: u :: u :: u :: []), hbk n false (ar d zs)⟩) (by omega) (by ((conv => lhs; cbv); (try (with_reducible rfl)))) ⟨c, 0, 0, ⟨hc, Nat.le_refl _, .inr rfl, hn.symm, List.Perm.refl _, hin, rfl⟩, by rfl⟩ ?_
  rintro j hj st ⟨d, i, I, ⟨hd, hij, hin', hdl, hdp, hdin, hI⟩, rfl⟩
  obtain ⟨T, hT⟩ : ∃ T : Int, T = 2 * I := ⟨_, rfl⟩
  obtain ⟨K0, hK0⟩ : ∃ K : Int, K = T + 1 := ⟨_, rfl⟩
  obtain ⟨K2, hK2⟩ : ∃ K : Int, K = T + 2 := ⟨_, rfl⟩
  have m1 := mulR hA (a := 2) (b := I) hT (by omega)
  have m2 := addR hA hK0 (by omega)
  have m3 := addR hA hK2 (by omega)
  apply wpV_block
  apply wpV_seq; refine wpV_of (by ((conv => lhs; cbv); (try (with_reducible rfl)))) ?_
  apply wpV_seq
  apply wpV_seq; refine wpV_of (by ((conv => lhs; cbv); (repeat ((first | rewrite [m1] | rewrite [m2]); (try (conv => lhs; cbv)))); (try (with_reducible rfl)))) ?_
  apply wpV_block
  refine wpV_loop 2 (fun q st => ∃ (low : Nat) (lo : Int) (k : Nat) (K : Int), (k = 2 * i + 1 + q ∧ K = (k : Int) ∧ lo = (low : Int) ∧ (low = i ∨ (1 ≤ low ∧ (low - 1) / 2 = i ∧ ∃ h : low < d.length, ∃ h' : i < d.length, ltB d[low] d[i] = true)) ∧
      (∀ (k' : Nat) (h : k' < d.length), 1 ≤ k' → (k' - 1) / 2 = i → k' < k → ∃ h' : low < d.length, ltB d[k'] d[low] = false)) ∧ st = ⟨2, (.one (.ptr 0 0) :: u :: i64 I :: i64 lo :: i64 K :: u :: u :: u :: u :: u :: u :: u :: u :: u :: u :: u :: u :: u :: u :: u :: u :: u :: u :: u :: u :: u :: u :: u :: u :: u :: u :: u :: u :: u :: u :: u :: u :: u :: u :: u :: u :: u :: u :: u :: u :: u :: u :: u :: u :: u :: u :: u :: u :: u :: u :: u :: u :: u :: u :: u :: u :: u :: u :: u :: u :: u :: u :: u :: u :: u :: u :: u :: u :: u :: u :: []), hbk n false (ar d zs)⟩) (by omega) (by ((conv => lhs; cbv); (repeat ((first | rewrite [m1] | rewrite [m2]); (try (conv => lhs; cbv)))); (try (with_reducible rfl)))) ⟨i, I, 2 * i + 1, K0, ⟨rfl, by omega, hI, .inl rfl, fun k' h h1 h2 h3 => by omega⟩, by rw [m1, m2]⟩ ?_
  rintro q hq st ⟨low, lo, k, K, ⟨hk, hK, hlo, hlow, hch⟩, rfl⟩
  have goOn : (q < 2 ∧ k < n) ∨ (q = 2 ∨ n ≤ k) := by omega
  rcases goOn with ⟨hq2, hkn⟩ | hend
  · have c1 := leT hA (a := K) (b := K2) (by omega)
    have c2 := ltT hA (a := K) (b := N) (by omega)
    have hlow' : low < d.length := by
      rcases hlow with h | ⟨_, _, h, _⟩
      · omega
      · exact h
    have hkl : k < d.length := by omega
    have a1 := atR hA (n := n) hK hkn
    have a2 := atR hA (n := n) hlo (by omega)
    have g1 := getNR hA (zs := zs) hkl
    have g2 := getNR hA (zs := zs) hlow'
    have kl := k49 d[k] d[low] (hdin _ (List.getElem_mem hkl)) (hdin _ (List.getElem_mem hlow'))
    obtain ⟨K', hK'⟩ : ∃ v, v = K + 1 := ⟨_, rfl⟩
    have inc := addR hA hK' (by omega)
    have hyes : ltB d[k] d[low] = true → (1 ≤ k ∧ (k - 1) / 2 = i ∧ ∃ h : k < d.length, ∃ h' : i < d.length, ltB d[k] d[i] = true) ∧ (∀ (k' : Nat) (h : k' < d.length), 1 ≤ k' → (k' - 1) / 2 = i → k' < k + 1 → ∃ h' : k < d.length, ltB d[k'] d[k] = false) := fun h => by
      refine ⟨⟨by omega, by omega, hkl, by omega, ?_⟩, fun k' h' h1 h2 h3 => ⟨hkl, ?_⟩⟩
      · rcases hlow with rfl | ⟨_, _, _, _, h2⟩
        · exact h
        · exact ltB_sw.tr _ _ _ h h2
      · by_cases e : k' = k
        · subst e; exact ltB_sw.irr _
        · obtain ⟨_, h4⟩ := hch k' h' h1 h2 (by omega)
          cases e5 : ltB d[k'] d[k] with
          | false => rfl
          | true => rw [ltB_sw.tr _ _ _ e5 h] at h4; cases h4
    have hnot : ltB d[k] d[low] = false → ∀ (k' : Nat) (h : k' < d.length), 1 ≤ k' → (k' - 1) / 2 = i → k' < k + 1 → ∃ h' : low < d.length, ltB d[k'] d[low] = false := fun h k' h' h1 h2 h3 => by
      by_cases e : k' = k
      · subst e; exact ⟨hlow', h⟩
      · exact hch k' h' h1 h2 (by omega)
    rw [← har] at g1 g2
    generalize hE : ar d zs = E at *
    generalize htl : ltB d[k] d[low] = tl at *
    generalize d[k] = xk at *
    generalize d[low] = xl at *
    dsimp only [e1] at g1 g2
    cases tl with
    | true =>
      obtain ⟨y1, y2⟩ := hyes rfl
      refine wpV_of (by ((conv => lhs; cbv); (repeat ((first | rewrite [m1] | rewrite [m3] | rewrite [c1] | rewrite [o1] | rewrite [c2] | rewrite [a1] | rewrite [g1] | rewrite [a2] | rewrite [g2] | rewrite [kl]); (try (conv => lhs; cbv)))); (try (with_reducible rfl)))) ?_
      refine headQ_of (by ((conv => lhs; cbv); (try (with_reducible rfl)))) ?_
      exact ⟨hq2, k, K, k + 1, K', ⟨by omega, by omega, hK, .inr y1, y2⟩, (by ((repeat (first | rewrite [inc])); (try rfl)))⟩
    | false =>
      refine wpV_of (by ((conv => lhs; cbv); (repeat ((first | rewrite [m1] | rewrite [m3] | rewrite [c1] | rewrite [o1] | rewrite [c2] | rewrite [a1] | rewrite [g1] | rewrite [a2] | rewrite [g2] | rewrite [kl]); (try (conv => lhs; cbv)))); (try (with_reducible rfl)))) ?_
      refine headQ_of (by ((conv => lhs; cbv); (try (with_reducible rfl)))) ?_
      exact ⟨hq2, low, lo, k + 1, K', ⟨by omega, by omega, hlo, hlow, hnot rfl⟩, (by ((repeat (first | rewrite [inc])); (try rfl)))⟩
  · have hall : ∀ (k' : Nat) (h : k' < d.length), 1 ≤ k' → (k' - 1) / 2 = i → ∃ h' : low < d.length, ltB d[k'] d[low] = false := fun k' h h1 h2 => hch k' h h1 h2 (by omega)
    generalize hE : ar d zs = E at *
    by_cases hK2 : K ≤ K2
    · have c1 := leT hA hK2
      have c2 := ltF hA (a := K) (b := N) (by omega)
      refine wpV_of (by ((conv => lhs; cbv); (repeat ((first | rewrite [m1] | rewrite [m3] | rewrite [c1] | rewrite [o1] | rewrite [c2]); (try (conv => lhs; cbv)))); (try (with_reducible rfl)))) ?_
      show wpV _ _ _ _ _ _
      by_cases hli : low = i
      · have q1 := eqT hA (a := lo) (b := I) (by omega)
        apply wpV_seq; refine wpV_of (by ((conv => lhs; cbv); (repeat ((first | rewrite [q1]); (try (conv => lhs; cbv)))); (try (with_reducible rfl)))) ?_
        exact ⟨((.tup [] : FV), hbk n false E), ⟨d, dn_stop hd (fun k' h h1 h2 => by
          obtain ⟨h', h3⟩ := hall k' h h1 h2
          simpa only [hli] using h3), hdp, by rw [← hE, har]⟩, by (show finV _ _ _ = some _; ((conv => lhs; cbv); (try (with_reducible rfl))); (try rfl))⟩
      · have q1 := eqF hA (a := lo) (b := I) (by omega)
        obtain ⟨l1, l2, l3, l4, l5⟩ := hlow.resolve_left hli
        have a1 := atR hA (n := n) hI (by omega)
        have a2 := atR hA (n := n) hlo (by omega)
        have g1 := getNR hA (zs := zs) l4
        have g2 := getNR hA (zs := zs) l3
        have w1 := setR hA (zs := zs) l4 d[low]
        have w2 := setR hA (c := d.set i d[low]) (zs := zs) (i := low) (by simpa using l3) d[i]
        have hstep := dn_step ltB_sw hd l4 l3 l1 l2 l5 (fun k' h h1 h2 => (hall k' h h1 h2).2)
        have hsp := swp_perm d i low l4 l3
        rw [show (d.set i d[low]).set low d[i] = swp d i low l4 l3 from rfl] at w2
        have hsl := swp_len d i low l4 l3
        have hdin' := inR_mem hdin hsp
        generalize swp d i low l4 l3 = d2 at *
        rw [← har] at g1 g2 w1 w2
        rw [← har] at w1 w2
        rw [hE] at g1 g2 w1
        generalize ar (d.set i d[low]) zs = es2 at *
        generalize hE2 : ar d2 zs = E2 at *
        generalize d[i] = xi at *
        generalize d[low] = xu at *
        dsimp only [e1] at g1 g2 w1 w2
        apply wpV_seq; refine wpV_of (by ((conv => lhs; cbv); (repeat ((first | rewrite [q1]); (try (conv => lhs; cbv)))); (try (with_reducible rfl)))) ?_
        refine wpV_of (by ((conv => lhs; cbv); (repeat ((first | rewrite [a1] | rewrite [g1] | rewrite [a2] | rewrite [g2] | rewrite [w1] | rewrite [w2]); (try (conv => lhs; cbv)))); (try (with_reducible rfl)))) ?_
        refine blk_n ?_
        refine headQ_of (by ((conv => lhs; cbv); (try (with_reducible rfl)))) ?_
        exact ⟨by omega, d2, low, lo, ⟨hstep, by omega, .inl (by omega), by omega, hsp.trans hdp, hdin', hlo⟩, by rw [hE2]⟩
    · have c1 := leF hA (a := K) (b := K2) (by omega)
      refine wpV_of (by ((conv => lhs; cbv); (repeat ((first | rewrite [m1] | rewrite [m3] | rewrite [c1]); (try (conv => lhs; cbv)))); (try (with_reducible rfl)))) ?_
      show wpV _ _ _ _ _ _
      by_cases hli : low = i
      · have q1 := eqT hA (a := lo) (b := I) (by omega)
        apply wpV_seq; refine wpV_of (by ((conv => lhs; cbv); (repeat ((first | rewrite [q1]); (try (conv => lhs; cbv)))); (try (with_reducible rfl)))) ?_
        exact ⟨((.tup [] : FV), hbk n false E), ⟨d, dn_stop hd (fun k' h h1 h2 => by
          obtain ⟨h', h3⟩ := hall k' h h1 h2
          simpa only [hli] using h3), hdp, by rw [← hE, har]⟩, by (show finV _ _ _ = some _; ((conv => lhs; cbv); (try (with_reducible rfl))); (try rfl))⟩
      · have q1 := eqF hA (a := lo) (b := I) (by omega)
        obtain ⟨l1, l2, l3, l4, l5⟩ := hlow.resolve_left hli
        have a1 := atR hA (n := n) hI (by omega)
        have a2 := atR hA (n := n) hlo (by omega)
        have g1 := getNR hA (zs := zs) l4
        have g2 := getNR hA (zs := zs) l3
        have w1 := setR hA (zs := zs) l4 d[low]
        have w2 := setR hA (c := d.set i d[low]) (zs := zs) (i := low) (by simpa using l3) d[i]
        have hstep := dn_step ltB_sw hd l4 l3 l1 l2 l5 (fun k' h h1 h2 => (hall k' h h1 h2).2)
        have hsp := swp_perm d i low l4 l3
        rw [show (d.set i d[low]).set low d[i] = swp d i low l4 l3 from rfl] at w2
        have hsl := swp_len d i low l4 l3
        have hdin' := inR_mem hdin hsp
        generalize swp d i low l4 l3 = d2 at *
        rw [← har] at g1 g2 w1 w2
        rw [← har] at w1 w2
        rw [hE] at g1 g2 w1
        generalize ar (d.set i d[low]) zs = es2 at *
        generalize hE2 : ar d2 zs = E2 at *
        generalize d[i] = xi at *
        generalize d[low] = xu at *
        dsimp only [e1] at g1 g2 w1 w2
        apply wpV_seq; refine wpV_of (by ((conv => lhs; cbv); (repeat ((first | rewrite [q1]); (try (conv => lhs; cbv)))); (try (with_reducible rfl)))) ?_
        refine wpV_of (by ((conv => lhs; cbv); (repeat ((first | rewrite [a1] | rewrite [g1] | rewrite [a2] | rewrite [g2] | rewrite [w1] | rewrite [w2]); (try (conv => lhs; cbv)))); (try (with_reducible rfl)))) ?_
        refine blk_n ?_
        refine headQ_of (by ((conv => lhs; cbv); (try (with_reducible rfl)))) ?_
        exact ⟨by omega, d2, low, lo, ⟨hstep, by omega, .inl (by omega), by omega, hsp.trans hdp, hdin', hlo⟩, by rw [hE2]⟩
end Go.Proofs.Ytlbmknejhmmjnaa
