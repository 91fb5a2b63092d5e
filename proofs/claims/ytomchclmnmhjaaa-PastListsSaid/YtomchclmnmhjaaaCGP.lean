/- The reference's reader reads numbers that rise: gone through. -/
import Derived.Test.YtomchclmnmhjaaaCGO
import Derived.Test.YtomchclmnmhjaaaCGK
set_option linter.unusedSimpArgs false
set_option linter.unusedVariables false
set_option maxRecDepth 100000
set_option maxHeartbeats 1000000
set_option cbv.maxSteps 10000000
namespace Go.Proofs.Ytomchclmnmhjaaa
open Go GoV

theorem rawS_some {bs : List Nat} (hb : ∀ b, b ∈ bs → b < 256) {s : RS} {x : Nat} {s' : RS} (h : rawS bs s = (some x, s')) : x < 2 ^ 64 ∧ s.isOk = true ∧ s'.isOk = true := by
  cases s with
  | er f e => simp [rawS] at h
  | ok f o n =>
    simp only [rawS] at h
    split at h
    · cases h
    · split at h
      · cases h
      · split at h
        · simp only [Prod.mk.injEq, Option.some.injEq] at h
          obtain ⟨rfl, rfl⟩ := h
          exact ⟨rawV_lt hb o, rfl, rfl⟩
        · cases h
theorem rawS_none {bs : List Nat} {s : RS} {s' : RS} (h : rawS bs s = (none, s')) : s'.isOk = false := by
  cases s with
  | er f e =>
    simp only [rawS, Prod.mk.injEq] at h
    rw [← h.2]; rfl
  | ok f o n =>
    simp only [rawS] at h
    split at h
    · simp only [Prod.mk.injEq] at h; rw [← h.2]; rfl
    · split at h
      · simp only [Prod.mk.injEq] at h; rw [← h.2]; rfl
      · split at h
        · cases h
        · simp only [Prod.mk.injEq] at h; rw [← h.2]; rfl
theorem n96 (bs : List Nat) (hb : ∀ b, b ∈ bs → b < 256) (most : Int) (s : RS) (hs : s.fits bs.length) : Pn 14 96 [rp, i64 most] (rdR s.isOk (by8 bs) s) (i64 (numS bs most s).1) (rdR s.isOk (by8 bs) (numS bs most s).2) := by
  refine playN 13 rfl rfl fun A call hA hcall => ?_
  obtain ⟨pl, mi, ml, nt, tn, ad, sb, K⟩ := kit hA
  obtain ⟨E, ix, sn, ll, cc, sg, I⟩ := lkit hA K (0 : Int) (fun z => [.int .i64 z]) 8
  have k1 := n125 bs hb s hs 13 (by omega)
  rw [← hcall] at k1
  have hf := rawS_fits hs
  have hes : (by8 bs).length = bs.length := by8_len bs
  have hz : ((0 : Nat) : Int) = 0 := rfl
  have hsome := fun x s' => rawS_some hb (s := s) (x := x) (s' := s')
  have hnone := fun s' => rawS_none (bs := bs) (s := s) (s' := s')
  have hee : ∀ f e, s = .er f e → rawS bs s = (none, s) := by rintro f e rfl; rfl
  unfold numS
  generalize rawS bs s = r at *
  obtain ⟨r, s'⟩ := r
  dsimp only at hf
  cases r with
  | none =>
    have h1 := hnone s' rfl
    dsimp only [Option.getD] at k1 ⊢
    rw [hz] at k1 ⊢
    cases s with
    | ok f o n =>
      cases s' with
      | ok f' o' n' => cases h1
      | er f' e' =>
        have hf : e' ≠ 0 := hf
        dsimp only [RS.isOk, cond_true, cond_false, rdR] at k1 ⊢
        generalize by8 bs = es at *
        refine wpV_ofH (by ((try (conv => lhs; cbv)); (repeat ((first | (rewrite [k1]) | (rewrite [K.ckI]; rotate_left; focus ((try simp only [K.df, I.df, true_and, and_true]) <;> omega)) | (rewrite [K.geF]; rotate_left; focus ((try simp only [K.df, I.df, true_and, and_true]) <;> omega)) | (rewrite [K.eqF]; rotate_left; focus ((try simp only [K.df, I.df, true_and, and_true]) <;> omega))); (try (conv => lhs; cbv)))); (exact rfl))) ?_
        (show finV _ _ _ = some _; ((try (conv => lhs; cbv)); (try (with_reducible rfl))); (try rfl))
    | er f e =>
      have hs : e ≠ 0 := hs
      have h2 := hee f e rfl
      simp only [Prod.mk.injEq, true_and] at h2
      subst h2
      dsimp only [RS.isOk, cond_true, cond_false, rdR] at k1 ⊢
      refine wpV_ofH (by ((try (conv => lhs; cbv)); (repeat ((first | (rewrite [k1]) | (rewrite [K.ckI]; rotate_left; focus ((try simp only [K.df, I.df, true_and, and_true]) <;> omega)) | (rewrite [K.geF]; rotate_left; focus ((try simp only [K.df, I.df, true_and, and_true]) <;> omega)) | (rewrite [K.eqF]; rotate_left; focus ((try simp only [K.df, I.df, true_and, and_true]) <;> omega))); (try (conv => lhs; cbv)))); (exact rfl))) ?_
      (show finV _ _ _ = some _; ((try (conv => lhs; cbv)); (try (with_reducible rfl))); (try rfl))
  | some x =>
    obtain ⟨hx1, h2, h3⟩ := hsome x s' rfl
    cases s with
    | er f e => cases h2
    | ok f o n =>
      cases s' with
      | er f' e' => cases h3
      | ok f' o' n' =>
        have k3 := n126 (by8 bs) (.ok f' o' n') (e := 5) (by decide) (by rw [hes]; exact hf) 13 (by omega)
        rw [← hcall] at k3
        dsimp only [Option.getD, RS.isOk, cond_true, cond_false, rdR, RS.fail] at k1 k3 ⊢
        by_cases h1 : 2 ^ 63 ≤ x
        · rw [if_pos (.inl h1), hz]
          dsimp only [rdR, cond_true]
          generalize by8 bs = es at *
          obtain ⟨X, hX⟩ : ∃ X : Int, X = x := ⟨_, rfl⟩
          rw [← hX] at k1
          refine wpV_ofH (by ((try (conv => lhs; cbv)); (repeat ((first | (rewrite [k1]) | (rewrite [k3]) | (rewrite [K.geT]; rotate_left; focus ((try simp only [K.df, I.df, true_and, and_true]) <;> omega))); (try (conv => lhs; cbv)))); (exact rfl))) ?_
          (show finV _ _ _ = some _; ((try (conv => lhs; cbv)); (try (with_reducible rfl))); (try rfl))
        · by_cases h2 : most < (x : Int)
          · rw [if_pos (.inr h2), hz]
            dsimp only [rdR, cond_true]
            generalize by8 bs = es at *
            obtain ⟨X, hX⟩ : ∃ X : Int, X = x := ⟨_, rfl⟩
            rw [← hX] at k1
            refine wpV_ofH (by ((try (conv => lhs; cbv)); (repeat ((first | (rewrite [k1]) | (rewrite [k3]) | (rewrite [K.ckI]; rotate_left; focus ((try simp only [K.df, I.df, true_and, and_true]) <;> omega)) | (rewrite [K.gtT]; rotate_left; focus ((try simp only [K.df, I.df, true_and, and_true]) <;> omega)) | (rewrite [K.eqT]; rotate_left; focus ((try simp only [K.df, I.df, true_and, and_true]) <;> omega)) | (rewrite [K.geF]; rotate_left; focus ((try simp only [K.df, I.df, true_and, and_true]) <;> omega))); (try (conv => lhs; cbv)))); (exact rfl))) ?_
            (show finV _ _ _ = some _; ((try (conv => lhs; cbv)); (try (with_reducible rfl))); (try rfl))
          · rw [if_neg (by omega)]
            dsimp only [rdR, cond_true]
            generalize by8 bs = es at *
            obtain ⟨X, hX⟩ : ∃ X : Int, X = x := ⟨_, rfl⟩
            rw [← hX] at k1 ⊢
            refine wpV_ofH (by ((try (conv => lhs; cbv)); (repeat ((first | (rewrite [k1]) | (rewrite [k3]) | (rewrite [K.ckI]; rotate_left; focus ((try simp only [K.df, I.df, true_and, and_true]) <;> omega)) | (rewrite [K.eqT]; rotate_left; focus ((try simp only [K.df, I.df, true_and, and_true]) <;> omega)) | (rewrite [K.gtF]; rotate_left; focus ((try simp only [K.df, I.df, true_and, and_true]) <;> omega)) | (rewrite [K.geF]; rotate_left; focus ((try simp only [K.df, I.df, true_and, and_true]) <;> omega))); (try (conv => lhs; cbv)))); (exact rfl))) ?_
            (show finV _ _ _ = some _; ((try (conv => lhs; cbv)); (try (with_reducible rfl))); (try rfl))
end Go.Proofs.Ytomchclmnmhjaaa
