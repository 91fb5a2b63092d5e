/- A reader reads numbers, and numbers that rise: gone through. -/
import Derived.Test.YtinobfilomhhhaaCGI
set_option linter.unusedSimpArgs false
set_option linter.unusedVariables false
set_option maxRecDepth 100000
set_option maxHeartbeats 1000000
set_option cbv.maxSteps 10000000
namespace Go.Proofs.Ytinobfilomhhhaa
open Go GoV

theorem n75 (bs : List Nat) (hb : ∀ b, b ∈ bs → b < 256) (most : Int) (s : RS) (hs : s.fits bs.length) : Pn 13 75 [rp, i64 most] (rdS s.isOk (by8 bs) s) (i64 (numS bs most s).1) (rdS s.isOk (by8 bs) (numS bs most s).2) := by
  refine playN 12 rfl rfl fun A call hA hcall => ?_
  obtain ⟨pl, mi, ml, nt, tn, ad, sb, K⟩ := kit hA
  obtain ⟨E, ix, sn, ll, cc, sg, B⟩ := lkit hA K (0 : Nat) (fun b => [.int .u8 (nt b)]) 1
  have k1 := n95 bs hb s hs 12 (by omega)
  rw [← hcall] at k1
  have hf := rawS_fits hs
  have hes : (by8 bs).length = bs.length := by8_len bs
  have hx : ∀ x s', rawS bs s = (some x, s') → x < 2 ^ 64 ∧ ∃ f o n, s' = .ok f o n := by
    intro x s' h
    cases s with
    | er f e => simp [rawS] at h
    | ok f o n =>
      simp only [rawS] at h
      split at h
      · cases h
      · split at h
        · cases h
        · split at h
          · simp only [Prod.mk.injEq, Option.some.injEq] at h
            obtain ⟨rfl, rfl⟩ := h
            exact ⟨rawV_lt hb o, _, _, _, rfl⟩
          · cases h
  unfold numS
  obtain ⟨w, hw⟩ : ∃ w, w = s.isOk := ⟨_, rfl⟩
  have hw1 : ∀ x s', rawS bs s = (some x, s') → w = true := by
    intro x s' h
    cases s with
    | er f e => simp [rawS] at h
    | ok f o n => exact hw
  rw [← hw] at k1 ⊢
  cases hr : rawS bs s with
  | mk r s' =>
    rw [hr] at k1 hf
    dsimp only at hf
    cases r with
    | none =>
      have hz : ((0 : Nat) : Int) = 0 := rfl
      dsimp only [rawF] at k1 ⊢
      rw [hz]
      cases s with
      | ok f o n =>
        have hw : w = true := hw
        subst hw
        cases s' with
        | ok f' o' n' =>
          dsimp only [RS.isOk, cond_true, cond_false, rdS] at k1 ⊢
          generalize by8 bs = es at *
          refine wpV_ofH (by ((try (conv => lhs; cbv)); (repeat ((first | (rewrite [k1])); (try (conv => lhs; cbv)))); (exact rfl))) ?_
          (show finV _ _ _ = some _; ((try (conv => lhs; cbv)); (try (with_reducible rfl))); (try rfl))
        | er f' e' =>
          dsimp only [RS.isOk, cond_true, cond_false, rdS] at k1 ⊢
          generalize by8 bs = es at *
          refine wpV_ofH (by ((try (conv => lhs; cbv)); (repeat ((first | (rewrite [k1])); (try (conv => lhs; cbv)))); (exact rfl))) ?_
          (show finV _ _ _ = some _; ((try (conv => lhs; cbv)); (try (with_reducible rfl))); (try rfl))
      | er f e =>
        have hw : w = false := hw
        subst hw
        simp only [rawS, Prod.mk.injEq] at hr
        obtain ⟨_, rfl⟩ := hr
        dsimp only [RS.isOk, cond_true, cond_false, rdS] at k1 ⊢
        refine wpV_ofH (by ((try (conv => lhs; cbv)); (repeat ((first | (rewrite [k1])); (try (conv => lhs; cbv)))); (exact rfl))) ?_
        (show finV _ _ _ = some _; ((try (conv => lhs; cbv)); (try (with_reducible rfl))); (try rfl))
    | some x =>
      obtain ⟨hx1, f', o', n', rfl⟩ := hx x s' hr
      have hw := hw1 x _ hr
      subst hw
      cases s with
      | er f e => simp [rawS] at hr
      | ok f o n =>
        have s1 : A .ar .shr .u64 (x : Int) 63 = ((x / 2 ^ 63 : Nat) : Int) := shrN hA (k := .u64) (j := 63) rfl (by decide)
        have k3 := n96 (by8 bs) (.ok f' o' n') (e := 5) (by decide) (by rw [hes]; exact hf) 12 (by omega)
        rw [← hcall] at k3
        have c1 : x < 2 ^ 63 → A .ck .i64 (x : Int) = (x : Int) := fun h => ckI64 hA h
        dsimp only [rawF, RS.isOk, cond_true, cond_false, rdS, RS.fail] at k1 k3 ⊢
        by_cases h1 : 2 ^ 63 ≤ x
        · have e1 : ((x / 2 ^ 63 : Nat) : Int) = 1 := by omega
          rw [e1] at s1
          rw [if_pos (.inl h1)]
          have hz : ((0 : Nat) : Int) = 0 := rfl
          rw [hz]
          dsimp only [rdS, cond_true]
          clear c1 e1
          generalize by8 bs = es at *
          generalize (x : Int) = X at *
          refine wpV_ofH (by ((try (conv => lhs; cbv)); (repeat ((first | (rewrite [k1]) | (rewrite [s1]) | (rewrite [k3]) | (rewrite [K.nn]; rotate_left; focus ((try simp only [K.df, B.df, true_and, and_true]) <;> omega)) | (rewrite [K.eqT]; rotate_left; focus ((try simp only [K.df, B.df, true_and, and_true]) <;> omega))); (try (conv => lhs; cbv)))); (exact rfl))) ?_
          (show finV _ _ _ = some _; ((try (conv => lhs; cbv)); (try (with_reducible rfl))); (try rfl))
        · have c1 := c1 (by omega)
          have e1 : ((x / 2 ^ 63 : Nat) : Int) = 0 := by omega
          rw [e1] at s1
          clear e1
          by_cases h2 : most < (x : Int)
          · rw [if_pos (.inr h2)]
            have hz : ((0 : Nat) : Int) = 0 := rfl
            rw [hz]
            dsimp only [rdS, cond_true]
            generalize by8 bs = es at *
            generalize (x : Int) = X at *
            refine wpV_ofH (by ((try (conv => lhs; cbv)); (repeat ((first | (rewrite [k1]) | (rewrite [s1]) | (rewrite [k3]) | (rewrite [c1]) | (rewrite [K.nn]; rotate_left; focus ((try simp only [K.df, B.df, true_and, and_true]) <;> omega)) | (rewrite [K.gtT]; rotate_left; focus ((try simp only [K.df, B.df, true_and, and_true]) <;> omega)) | (rewrite [K.eqF]; rotate_left; focus ((try simp only [K.df, B.df, true_and, and_true]) <;> omega))); (try (conv => lhs; cbv)))); (exact rfl))) ?_
            (show finV _ _ _ = some _; ((try (conv => lhs; cbv)); (try (with_reducible rfl))); (try rfl))
          · rw [if_neg (by omega)]
            dsimp only [rdS, cond_true]
            generalize by8 bs = es at *
            generalize (x : Int) = X at *
            refine wpV_ofH (by ((try (conv => lhs; cbv)); (repeat ((first | (rewrite [k1]) | (rewrite [s1]) | (rewrite [k3]) | (rewrite [c1]) | (rewrite [K.nn]; rotate_left; focus ((try simp only [K.df, B.df, true_and, and_true]) <;> omega)) | (rewrite [K.gtF]; rotate_left; focus ((try simp only [K.df, B.df, true_and, and_true]) <;> omega)) | (rewrite [K.eqF]; rotate_left; focus ((try simp only [K.df, B.df, true_and, and_true]) <;> omega))); (try (conv => lhs; cbv)))); (exact rfl))) ?_
            (show finV _ _ _ = some _; ((try (conv => lhs; cbv)); (try (with_reducible rfl))); (try rfl))
end Go.Proofs.Ytinobfilomhhhaa
