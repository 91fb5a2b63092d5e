/- A number taken out of a list: gone through. -/
import Derived.Test.YtlbmknejhmmjnaaSHD
set_option linter.unusedSimpArgs false
set_option linter.unusedVariables false
set_option maxRecDepth 100000
set_option maxHeartbeats 1000000
set_option cbv.maxSteps 10000000
namespace Go.Proofs.Ytlbmknejhmmjnaa
open Go GoV

def eN (l : List Int) : List (List IV) := l.map e1
theorem eN_len (l : List Int) : (eN l).length = l.length := by simp [eN]
theorem eN_app (l m : List Int) : eN (l ++ m) = eN l ++ eN m := by simp [eN]
theorem cutLH {A : Ar} (hA : A = real) {es : List (List IV)} {n a b : Nat} {x y : Int} (hx : x = a) (hy : y = b) (h1 : a ≤ b) (h2 : b ≤ es.length) (hn : n ≤ es.length) : A .cuts 0 n (A .ln es) (some x) (some y) none = some (a, b - a) := by
  rw [hA, hx, hy, real_cuts, real_ln]; simp [rCuts, rBound, h1, h2, hn]
theorem cutLHM {A : Ar} (hA : A = real) {es : List (List IV)} {n a b : Nat} {x y : Int} (hx : x = a) (hy : y = b) (h1 : a ≤ b) (h2 : b ≤ n) (hn : n ≤ es.length) : A .cuts 0 n (A .ln es) (some x) (some y) (some y) = some (a, b - a) := by
  rw [hA, hx, hy, real_cuts, real_ln]; simp [rCuts, rBound, h1, h2, hn]
theorem cutL {A : Ar} (hA : A = real) {es : List (List IV)} {n a : Nat} {x : Int} (hx : x = a) (h1 : a ≤ n) (hn : n ≤ es.length) : A .cuts 0 n (A .ln es) (some x) none none = some (a, n - a) := by
  rw [hA, hx, real_cuts, real_ln]; simp [rCuts, rBound, h1, hn]
theorem cutH {A : Ar} (hA : A = real) {es : List (List IV)} {n b : Nat} {y : Int} (hy : y = b) (h2 : b ≤ es.length) (hn : n ≤ es.length) : A .cuts 0 n (A .ln es) none (some y) none = some (0, b) := by
  rw [hA, hy, real_cuts, real_ln]; simp [rCuts, rBound, h2, hn]
theorem over_e (L M : List Int) (i : Nat) : rOver (eN L) i (eN M) = eN (L.take i ++ M ++ L.drop (i + M.length)) := by
  unfold rOver eN
  rw [List.length_map, List.map_append, List.map_append, List.map_take, List.map_drop]
theorem q42 {l a b : List Int} {x : Int} (he : l = a ++ [x] ++ b) (zs : List Int) (hl : l.length ≤ 900) (g : Bool) :
    Pn 2 42 [.one (.slo 0 0 l.length), .one (.iv (.int .i64 (a.length : Nat))), .one (.iv (.int .i64 ((a.length + 1 : Nat) : Int)))] [.arr false g 1 (eN (l ++ zs))] (.one (.slo 0 0 (a ++ b).length)) [.arr false g 1 (eN ((a ++ b) ++ 0 :: zs))] := by
  refine playN 1 rfl rfl fun A call hA hcall => ?_
  obtain ⟨pl, mi, ml, nt, tn, ad, sb, K⟩ := kit hA
  obtain ⟨E, ix, sn, ll, cc, sg, D⟩ := lkit hA K (0 : Int) (fun z => [.int .i64 z]) 8
  have hll : l.length = a.length + 1 + b.length := by rw [he]; simp only [List.length_append, List.length_singleton]
  have hab : (a ++ b).length = a.length + b.length := List.length_append
  have hz : (eN (l ++ zs)).length = l.length + zs.length := by rw [eN_len, List.length_append]
  obtain ⟨L1, hL1⟩ : ∃ L1, L1 = a ++ b ++ (l ++ zs).drop (a.length + b.length) := ⟨_, rfl⟩
  have hL1l : L1.length = l.length + zs.length := by rw [hL1]; simp only [List.length_append, List.length_drop]; omega
  have h1 : rOver (eN (l ++ zs)) a.length (eN b) = eN L1 := by
    rw [over_e, hL1]
    congr 2
    rw [he, List.append_assoc, List.append_assoc, List.take_left' rfl]
  have h2 : rOver (eN L1) (a ++ b).length (eN [(0 : Int)]) = eN ((a ++ b) ++ 0 :: zs) := by
    rw [over_e, hL1]
    have hd : (a ++ b ++ (l ++ zs).drop (a.length + b.length)).drop ((a ++ b).length + [(0 : Int)].length) = zs := by
      rw [show (a ++ b).length + [(0 : Int)].length = (a ++ b).length + 1 from rfl, ← List.drop_drop, List.drop_left' rfl, List.drop_drop]
      rw [List.drop_left' (by omega)]
    rw [hd, List.take_left' rfl, List.append_assoc]
    rfl
  obtain ⟨es, hes⟩ : ∃ es, es = eN (l ++ zs) := ⟨_, rfl⟩
  obtain ⟨e1, he1⟩ : ∃ e1, e1 = eN L1 := ⟨_, rfl⟩
  have hle : (eN b).length = b.length := eN_len b
  have hel : es.length = l.length + zs.length := by rw [hes]; exact hz
  have he1l : e1.length = es.length := by rw [he1, eN_len, hL1l, hel]
  obtain ⟨I, hI⟩ : ∃ x : Int, x = (a.length : Nat) := ⟨_, rfl⟩
  obtain ⟨I1, hI1⟩ : ∃ x : Int, x = ((a.length + 1 : Nat) : Int) := ⟨_, rfl⟩
  obtain ⟨N, hN⟩ : ∃ x : Int, x = ((l.length : Nat) : Int) := ⟨_, rfl⟩
  obtain ⟨C, hC⟩ : ∃ x : Int, x = (((a ++ b).length : Nat) : Int) := ⟨_, rfl⟩
  obtain ⟨c, hc⟩ : ∃ c, c = (a ++ b).length := ⟨_, rfl⟩
  obtain ⟨n, hn⟩ : ∃ n, n = l.length := ⟨_, rfl⟩
  have c1 := cutLHM hA (es := es) (n := n) hI1 (hN.trans (by rw [hn])) (by omega) (Nat.le_refl n) (by omega)
  have c1' := cutLH hA (es := es) (n := n) hI hI1 (by omega) (by omega) (by omega)
  rw [show a.length + 1 - a.length = 1 by omega] at c1'
  have c2 := cutH hA (es := es) (n := n) hI (by omega) (by omega)
  have c3 := cutL hA (es := es) (n := n) hI1 (by omega) (by omega)
  have c4 := cutLH hA (es := e1) (n := c) (hC.trans (by rw [hc])) (hN.trans (by rw [hn])) (a := c) (b := n) (by omega) (by omega) (by omega)
  rw [show n - c = 1 by omega] at c4
  have s1 : A .seg es (a.length + 1) (n - (a.length + 1)) = eN b := by
    rw [hA, real_seg, hes]
    unfold rSeg eN
    rw [← List.map_drop, ← List.map_take, he]
    congr 1
    rw [List.append_assoc, List.drop_left' (by simp), List.take_left' (by omega)]
  have a1 : A .apo 8 0 a.length es (eN b) = some (false, e1) := by
    rw [hA, real_apo, he1, ← h1, hes]
    have h4 : ¬ (0 + a.length = (eN (l ++ zs)).length) := by omega
    have h5 : 0 + a.length + (eN b).length ≤ (eN (l ++ zs)).length := by omega
    unfold rApo
    rw [if_neg h4, if_pos h5, Nat.zero_add]
  have l1 : A .addN a.length (A .ln (eN b)) = c := by rw [hA, real_addN, real_ln, hle]; omega
  have ofc : A .ofN c = C := by rw [hA, real_ofN, hC, hc]
  have ofn : A .ofN n = N := by rw [hA, real_ofN, hN, hn]
  have ov : A .over e1 c (A .zeros [.int .i64 0] 1) = eN ((a ++ b) ++ 0 :: zs) := by
    rw [hA, real_over, real_zeros, he1, ← h2, hc]; rfl
  rw [← hes, ← hc, ← hI, ← hI1, ← hn]
  rw [← hc] at hC
  generalize eN ((a ++ b) ++ 0 :: zs) = e2 at *
  generalize eN b = eb at *
  generalize hal : a.length = al at *
  generalize hal1 : al + 1 = al1 at *
  generalize hnl : n - al1 = nl at *
  apply wpV_seq; refine wpV_ofH (by ((try (conv => lhs; cbv)); (exact rfl))) ?_
  apply wpV_seq; refine wpV_ofH (by ((try (conv => lhs; cbv)); (repeat ((first | (rewrite [ofn]) | (rewrite [c1]) | (rewrite [c1'])); (try (conv => lhs; cbv)))); (exact rfl))) ?_
  apply wpV_seq; apply wpV_seq; refine wpV_ofH (by ((try (conv => lhs; cbv)); (repeat ((first | (rewrite [K.eqF]; rotate_left; focus ((try simp only [K.df, D.df, true_and, and_true]) <;> omega))); (try (conv => lhs; cbv)))); (exact rfl))) ?_
  refine wpV_ofH (by ((try (conv => lhs; cbv)); (exact rfl))) ?_
  apply wpV_seq; refine wpV_ofH (by ((try (conv => lhs; cbv)); (repeat ((first | (rewrite [ofn])); (try (conv => lhs; cbv)))); (exact rfl))) ?_
  apply wpV_seq; refine wpV_ofH (by ((try (conv => lhs; cbv)); (repeat ((first | (rewrite [c2]) | (rewrite [c3]) | (rewrite [s1]) | (rewrite [a1]) | (rewrite [l1])); (try (conv => lhs; cbv)))); (exact rfl))) ?_
  apply wpV_seq; refine wpV_ofH (by ((try (conv => lhs; cbv)); (repeat ((first | (rewrite [ofc]) | (rewrite [c4]) | (rewrite [ov])); (try (conv => lhs; cbv)))); (exact rfl))) ?_
  refine wpV_ofH (by ((try (conv => lhs; cbv)); (exact rfl))) ?_
  (show finV _ _ _ = some _; ((try (conv => lhs; cbv)); (try (with_reducible rfl))); (try rfl))
end Go.Proofs.Ytlbmknejhmmjnaa
