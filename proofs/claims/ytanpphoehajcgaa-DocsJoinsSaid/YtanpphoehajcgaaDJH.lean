/- Two states joined: gone through. -/
import Derived.Test.YtanpphoehajcgaaDJC
import Derived.Test.YtanpphoehajcgaaDJE
import Derived.Test.YtanpphoehajcgaaDJG
import Derived.Test.YtanpphoehajcgaaDJU
set_option linter.unusedSimpArgs false
set_option linter.unusedVariables false
set_option maxRecDepth 100000
set_option maxHeartbeats 4000000
set_option cbv.maxSteps 10000000
namespace Go.Proofs.Ytanpphoehajcgaa
open Go GoV

theorem lft_len (vb : List Int) (la lb : List Wr) : (lft vb la lb).length ≤ la.length := List.length_filter_le _ _
theorem segW {A : Ar} (hA : A = real) (q : List Wr) {n : Nat} (h : n = q.length) : A .seg (eWs q) 0 n = eWs q := by
  rw [hA, real_seg]; unfold rSeg; rw [List.drop_zero, List.take_of_length_le (by simp [eWs]; omega)]
/-- What is joined, ahead of the taking out of doubles. -/
def jnW (va vb : List Int) (la lb : List Wr) : List Wr := srtW (lft vb la lb ++ lft va lb la)
theorem jnW_len (va vb : List Int) (la lb : List Wr) : (jnW va vb la lb).length = (lft vb la lb).length + (lft va lb la).length := by
  unfold jnW; rw [(srtW_perm _).length_eq, List.length_append]
theorem h33 {va vb : List Int} (hva : va.length = 64) (hvb : vb.length = 64) (la lb : List Wr) (b b2 : Bool) (ha : la.length ≤ 400) (hb : lb.length ≤ 400) :
    Qn 3400 33 [stF b 6 va la, stF b2 6 vb lb] [] (.agg [.iv (.arr 64 (vec (mxV va vb))), .slo 0 0 (cmpct (jnW va vb la lb)).length]) [.arr false false 6 (eWs (cmpct (jnW va vb la lb) ++ List.replicate ((jnW va vb la lb).length - (cmpct (jnW va vb la lb)).length) zeroWr))] := by
  refine playQ 3399 rfl rfl fun A call hA hcall => ?_
  obtain ⟨pl, mi, ml, nt, tn, ad, sb, K⟩ := kit hA
  obtain ⟨E, ix, sn, ll, cc, sg, D⟩ := lkit hA K zeroWr (fun w => [.int .i64 w.d.1, .int .i64 w.d.2, .int .i64 w.t, .str w.doc, .int .i64 w.f, .str w.txt]) 64
  obtain ⟨W, gx, st', V⟩ := rkit hA
  have l1 := lft_len vb la lb
  have l2 := lft_len va lb la
  have ka := lift (n75 hva hvb la lb b b2 (by omega) (by omega)) 3399 (by omega)
  have kb := lift (n75 hvb hva lb la b2 b (by omega) (by omega)) 3399 (by omega)
  have k74 := fun x y => h74 (lft vb la lb) (lft va lb la) x y (by omega) (by omega) 3399 (by omega)
  have k76 := q76 (lft vb la lb ++ lft va lb la) (lft vb la lb ++ lft va lb la).length (Nat.le_refl _) (by rw [List.length_append]; omega) false 3399 (by omega)
  rw [List.take_length, List.drop_length, List.append_nil, show srtW (lft vb la lb ++ lft va lb la) = jnW va vb la lb from rfl] at k76
  have k77 := lift (n77 hva hvb) 3399 (by omega)
  have k78 := lift (n78 (jnW va vb la lb) (by rw [jnW_len]; omega)) 3399 (by omega)
  have hjl : (jnW va vb la lb).length = (lft vb la lb ++ lft va lb la).length := by rw [jnW_len, List.length_append]
  have sa := segW hA (lft vb la lb) rfl
  have sb' := segW hA (lft va lb la) rfl
  rw [← hcall] at ka kb k76 k77 k78
  simp only [← hcall] at k74
  rw [hjl] at k78 ⊢
  dsimp only [stF, vecF] at *
  generalize eWs (cmpct (jnW va vb la lb) ++ List.replicate ((lft vb la lb ++ lft va lb la).length - (cmpct (jnW va vb la lb)).length) zeroWr) = ze at *
  generalize (cmpct (jnW va vb la lb)).length = zn at *
  generalize eWs (jnW va vb la lb) = je at *
  generalize (lft vb la lb ++ lft va lb la).length = cn at *
  generalize eWs (lft vb la lb ++ lft va lb la) = ce at *
  generalize (lft vb la lb).length = an at *
  generalize (lft va lb la).length = bn at *
  generalize eWs (lft vb la lb) = ae at *
  generalize eWs (lft va lb la) = be at *
  generalize vec (mxV va vb) = mv at *
  generalize vec va = vva at *
  generalize vec vb = vvb at *
  generalize eWs la = ela at *
  generalize eWs lb = elb at *
  apply wpV_seq; refine wpV_ofH (by ((try (conv => lhs; cbv)); (exact rfl))) ?_
  apply wpV_seq; refine wpV_ofH (by ((try (conv => lhs; cbv)); (repeat ((first | (rewrite [ka]) | (rewrite [kb]) | (rewrite [sa]) | (rewrite [sb']) | (rewrite [k74])); (try (conv => lhs; cbv)))); (exact rfl))) ?_
  apply wpV_seq; refine wpV_ofH (by ((try (conv => lhs; cbv)); (repeat ((first | (rewrite [k76])); (try (conv => lhs; cbv)))); (exact rfl))) ?_
  refine wpV_ofH (by ((try (conv => lhs; cbv)); (repeat ((first | (rewrite [k77]) | (rewrite [k78])); (try (conv => lhs; cbv)))); (exact rfl))) ?_
  (show finV _ _ _ = some _; ((try (conv => lhs; cbv)); (try (with_reducible rfl))); (try rfl))
end Go.Proofs.Ytanpphoehajcgaa
