/- The reference's vector behind bytes: gone through. -/
import Derived.Test.YtanpphoehajcgaaCGS
set_option linter.unusedSimpArgs false
set_option linter.unusedVariables false
set_option maxRecDepth 100000
set_option maxHeartbeats 1000000
set_option cbv.maxSteps 10000000
namespace Go.Proofs.Ytanpphoehajcgaa
open Go GoV

theorem n43 {v : List Int} (hv : v.length = 64) : Pn 66 43 [vecF v] [] (bl (goodB v)) [] := by
  refine playN 65 rfl rfl fun A call hA hcall => ?_
  obtain ⟨pl, mi, ml, nt, tn, ad, sb, K⟩ := kit hA
  obtain ⟨E, ix, sn, ll, cc, sg, I⟩ := lkit hA K (0 : Int) (fun z => [.int .i64 z]) 8
  obtain ⟨W, gx, st', V⟩ := rkit hA
  have hvW : vec v = W v := by rw [V.W_]; rfl
  have hgx : ∀ (J : Int) (i : Nat), J = i → gx v J = v.getD i 0 := fun J i h => by rw [V.gx_, h, Int.toNat_natCast]
  dsimp only [vecF]
  rw [hvW]
  apply wpV_seq; refine wpV_ofH (by ((try (conv => lhs; cbv)); (exact rfl))) ?_
  apply wpV_seq; apply wpV_seq; refine wpV_ofH (by ((try (conv => lhs; cbv)); (exact rfl))) ?_
  apply wpV_block
  refine wpV_loop 64 (fun i st => ∃ J : Int, st = ⟨0, [u, u, u, u, u, .agg [.iv (.arr 64 (W v))], i64 J, u, u, u, u, u, u, u, u, u], []⟩ ∧ J = i ∧ ∀ j, j < i → badB (v.getD j 0) = false) (by omega) (by ((try (conv => lhs; cbv)); (try (with_reducible rfl)))) ⟨0, rfl, rfl, fun j h => by omega⟩ ?_
  rintro i hi st ⟨J, rfl, hJ, hg⟩
  by_cases him : i < 64
  · have x0 := hgx J i hJ
    have g1 := V.getc (v := v) (J := J) (by omega)
    generalize gx v J = Y at *
    by_cases hb : badB (v.getD i 0) = true
    · have hb' := hb
      simp only [badB, Bool.or_eq_true, decide_eq_true_eq] at hb'
      have e : goodB v = false := all_f (g := fun i => badB (v.getD i 0)) him hb
      rw [e]
      by_cases c : Y < 0
      · refine wpV_ofH (by ((try (conv => lhs; cbv)); (repeat ((first | (rewrite [g1]) | (rewrite [K.ltT]; rotate_left; focus ((try simp only [K.df, I.df, V.df, true_and, and_true]) <;> omega))); (try (conv => lhs; cbv)))); (exact rfl))) ?_
        show finQ _ _ _ _ _
        (show finV _ _ _ = some _; ((try (conv => lhs; cbv)); (try (with_reducible rfl))); (try rfl))
      · refine wpV_ofH (by ((try (conv => lhs; cbv)); (repeat ((first | (rewrite [g1]) | (rewrite [K.ltT]; rotate_left; focus ((try simp only [K.df, I.df, V.df, true_and, and_true]) <;> omega)) | (rewrite [K.gtT]; rotate_left; focus ((try simp only [K.df, I.df, V.df, true_and, and_true]) <;> omega)) | (rewrite [K.ltF]; rotate_left; focus ((try simp only [K.df, I.df, V.df, true_and, and_true]) <;> omega))); (try (conv => lhs; cbv)))); (exact rfl))) ?_
        show finQ _ _ _ _ _
        (show finV _ _ _ = some _; ((try (conv => lhs; cbv)); (try (with_reducible rfl))); (try rfl))
    · have hb0 : badB (v.getD i 0) = false := by simpa using hb
      have hb' := hb0
      simp only [badB, Bool.or_eq_false_iff, decide_eq_false_iff_not] at hb'
      refine wpV_ofH (by ((try (conv => lhs; cbv)); (repeat ((first | (rewrite [g1]) | (rewrite [K.add]; rotate_left; focus ((try simp only [K.df, I.df, V.df, true_and, and_true]) <;> omega)) | (rewrite [K.ltT]; rotate_left; focus ((try simp only [K.df, I.df, V.df, true_and, and_true]) <;> omega)) | (rewrite [K.ltF]; rotate_left; focus ((try simp only [K.df, I.df, V.df, true_and, and_true]) <;> omega)) | (rewrite [K.gtF]; rotate_left; focus ((try simp only [K.df, I.df, V.df, true_and, and_true]) <;> omega))); (try (conv => lhs; cbv)))); (exact rfl))) ?_
      refine headQ_ofH (by ((try (conv => lhs; cbv)); (exact rfl))) ?_
      refine ⟨him, _, rfl, ?_, fun j hj => ?_⟩
      · rw [K.pl_]; omega
      · rcases Nat.lt_succ_iff_lt_or_eq.1 hj with h | rfl
        · exact hg j h
        · exact hb0
  · obtain rfl : i = 64 := by omega
    have e : goodB v = true := all_t (g := fun i => badB (v.getD i 0)) hg
    rw [e]
    refine wpV_ofH (by ((try (conv => lhs; cbv)); (repeat ((first | (rewrite [K.ltF]; rotate_left; focus ((try simp only [K.df, I.df, V.df, true_and, and_true]) <;> omega))); (try (conv => lhs; cbv)))); (exact rfl))) ?_
    show wpV _ _ _ _ _ _
    refine wpV_ofH (by ((try (conv => lhs; cbv)); (exact rfl))) ?_
    (show finV _ _ _ = some _; ((try (conv => lhs; cbv)); (try (with_reducible rfl))); (try rfl))
end Go.Proofs.Ytanpphoehajcgaa
