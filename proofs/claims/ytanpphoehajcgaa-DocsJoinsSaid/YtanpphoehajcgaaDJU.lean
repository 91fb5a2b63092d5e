/- Vectors as one: gone through, of the program and of the reference. -/
import Derived.Test.YtanpphoehajcgaaDJL
import Derived.Test.YtanpphoehajcgaaDAE
set_option linter.unusedSimpArgs false
set_option linter.unusedVariables false
set_option maxRecDepth 100000
set_option maxHeartbeats 1000000
set_option cbv.maxSteps 10000000
namespace Go.Proofs.Ytanpphoehajcgaa
open Go GoV

def mxV (a b : List Int) : List Int := List.zipWith max a b
theorem mxV_len {a b : List Int} (ha : a.length = 64) (hb : b.length = 64) : (mxV a b).length = 64 := by rw [mxV, List.length_zipWith]; omega
theorem mxV_get {a b : List Int} (ha : a.length = 64) (hb : b.length = 64) {i : Nat} (hi : i < 64) : (mxV a b)[i]'(by rw [mxV_len ha hb]; exact hi) = max (a.getD i 0) (b.getD i 0) := by
  simp only [mxV, List.getElem_zipWith]
  rw [List.getD_eq_getElem?_getD, List.getD_eq_getElem?_getD, List.getElem?_eq_getElem (by omega), List.getElem?_eq_getElem (by omega)]; rfl
/-- The first so many places joined. -/
def mxU (a b : List Int) (i : Nat) : List Int := (mxV a b).take i ++ a.drop i
theorem mxU_len {a b : List Int} (ha : a.length = 64) (hb : b.length = 64) {i : Nat} (hi : i ≤ 64) : (mxU a b i).length = 64 := by
  rw [mxU, List.length_append, List.length_take, mxV_len ha hb, List.length_drop]; omega
theorem mxU_get {a b : List Int} (ha : a.length = 64) (hb : b.length = 64) {i : Nat} (hi : i < 64) : (mxU a b i).getD i 0 = a.getD i 0 := by
  rw [mxU, List.getD_eq_getElem?_getD, List.getD_eq_getElem?_getD, List.getElem?_append_right (by rw [List.length_take, mxV_len ha hb]; omega), List.length_take, mxV_len ha hb, Nat.min_eq_left (by omega), Nat.sub_self, List.getElem?_drop, Nat.add_zero]
theorem mxU_set {a b : List Int} (ha : a.length = 64) (hb : b.length = 64) {i : Nat} (hi : i < 64) : (mxU a b i).set i (max (a.getD i 0) (b.getD i 0)) = mxU a b (i + 1) := by
  have h1 : i < (mxV a b).length := by rw [mxV_len ha hb]; exact hi
  rw [mxU, mxU, List.take_succ_eq_append_getElem h1, mxV_get ha hb hi, List.set_append_right _ _ (by rw [List.length_take]; omega), List.length_take, Nat.min_eq_left (by omega), Nat.sub_self, List.append_assoc]
  congr 1
  rw [List.drop_eq_getElem_cons (by omega), List.set_cons_zero]; rfl
theorem mxU_keep {a b : List Int} (ha : a.length = 64) (hb : b.length = 64) {i : Nat} (hi : i < 64) (h : b.getD i 0 ≤ a.getD i 0) : mxU a b i = mxU a b (i + 1) := by
  rw [← mxU_set ha hb hi, show max (a.getD i 0) (b.getD i 0) = (mxU a b i).getD i 0 by rw [mxU_get ha hb hi]; omega]
  rw [List.getD_eq_getElem?_getD, List.getElem?_eq_getElem (by rw [mxU_len ha hb (by omega)]; exact hi), Option.getD_some, List.set_getElem_self]
theorem mxU_end {a b : List Int} (ha : a.length = 64) (hb : b.length = 64) : mxU a b 64 = mxV a b := by
  rw [mxU, List.take_of_length_le (by rw [mxV_len ha hb]; omega), List.drop_of_length_le (by omega), List.append_nil]
theorem n108 (x y : Int) : Pn 1 108 [i64 x, i64 y] [] (i64 (max x y)) [] := by
  refine playN 0 rfl rfl fun A call hA hcall => ?_
  have mx : A .mx x y = max x y := by rw [hA, real_mx]; split <;> omega
  generalize max x y = z at *
  obtain ⟨pl, mi, ml, nt, tn, ad, sb, K⟩ := kit hA
  obtain ⟨E, ix, sn, ll, cc, sg, D⟩ := lkit hA K ((0, 0) : Int × Int) (fun p => [.int .i64 p.1, .int .i64 p.2]) 16
  obtain ⟨W, gx, st', V⟩ := rkit hA
  refine wpV_ofH (by ((try (conv => lhs; cbv)); (repeat ((first | (rewrite [mx])); (try (conv => lhs; cbv)))); (exact rfl))) ?_
  (show finV _ _ _ = some _; ((try (conv => lhs; cbv)); (try (with_reducible rfl))); (try rfl))
theorem n107 {a b : List Int} (ha : a.length = 64) (hb : b.length = 64) : Pn 102 107 [vecF a, vecF b, .one (.iv (.fn 108))] [] (vecF (mxV a b)) [] := by
  refine playN 101 rfl rfl fun A call hA hcall => ?_
  obtain ⟨pl, mi, ml, nt, tn, ad, sb, K⟩ := kit hA
  obtain ⟨E, ix, sn, ll, cc, sg, D⟩ := lkit hA K ((0, 0) : Int × Int) (fun p => [.int .i64 p.1, .int .i64 p.2]) 16
  obtain ⟨W, gx, st', V⟩ := rkit hA
  have hvW : ∀ v, vec v = W v := fun v => by rw [V.W_]; rfl
  obtain ⟨MX, hMX⟩ : ∃ MX : Int → Int → Int, ∀ x y, MX x y = max x y := ⟨_, fun _ _ => rfl⟩
  have k108 : ∀ x y, call 108 [i64 x, i64 y] [] = some (i64 (MX x y), []) := fun x y => by rw [hcall, hMX]; exact n108 x y 101 (by omega)
  obtain ⟨zr, hzr⟩ : ∃ zr : List IV, zr = [IV.int IntKind.i64 0, IV.int IntKind.i64 0, IV.int IntKind.i64 0, IV.int IntKind.i64 0, IV.int IntKind.i64 0, IV.int IntKind.i64 0, IV.int IntKind.i64 0, IV.int IntKind.i64 0, IV.int IntKind.i64 0, IV.int IntKind.i64 0, IV.int IntKind.i64 0, IV.int IntKind.i64 0, IV.int IntKind.i64 0, IV.int IntKind.i64 0, IV.int IntKind.i64 0, IV.int IntKind.i64 0, IV.int IntKind.i64 0, IV.int IntKind.i64 0, IV.int IntKind.i64 0, IV.int IntKind.i64 0, IV.int IntKind.i64 0, IV.int IntKind.i64 0, IV.int IntKind.i64 0, IV.int IntKind.i64 0, IV.int IntKind.i64 0, IV.int IntKind.i64 0, IV.int IntKind.i64 0, IV.int IntKind.i64 0, IV.int IntKind.i64 0, IV.int IntKind.i64 0, IV.int IntKind.i64 0, IV.int IntKind.i64 0, IV.int IntKind.i64 0, IV.int IntKind.i64 0, IV.int IntKind.i64 0, IV.int IntKind.i64 0, IV.int IntKind.i64 0, IV.int IntKind.i64 0, IV.int IntKind.i64 0, IV.int IntKind.i64 0, IV.int IntKind.i64 0, IV.int IntKind.i64 0, IV.int IntKind.i64 0, IV.int IntKind.i64 0, IV.int IntKind.i64 0, IV.int IntKind.i64 0, IV.int IntKind.i64 0, IV.int IntKind.i64 0, IV.int IntKind.i64 0, IV.int IntKind.i64 0, IV.int IntKind.i64 0, IV.int IntKind.i64 0, IV.int IntKind.i64 0, IV.int IntKind.i64 0, IV.int IntKind.i64 0, IV.int IntKind.i64 0, IV.int IntKind.i64 0, IV.int IntKind.i64 0, IV.int IntKind.i64 0, IV.int IntKind.i64 0, IV.int IntKind.i64 0, IV.int IntKind.i64 0, IV.int IntKind.i64 0, IV.int IntKind.i64 0] := ⟨_, rfl⟩
  obtain ⟨U, hU⟩ : ∃ U : Nat → List Int, ∀ i, U i = mxU a b i := ⟨_, fun _ => rfl⟩
  have hU0 : U 0 = a := by rw [hU]; rfl
  have hU64 : U 64 = mxV a b := by rw [hU]; exact mxU_end ha hb
  have hUl : ∀ i, i ≤ 64 → (U i).length = 64 := fun i hi => by rw [hU]; exact mxU_len ha hb hi
  have hUs : ∀ (i : Nat) (J : Int), J = i → i < 64 → st' (U i) J (MX (gx (U i) J) (gx b J)) = U (i + 1) := fun i J hJ hi => by
    rw [V.st_, V.gx_, V.gx_, hMX, hJ, Int.toNat_natCast, hU, hU, mxU_get ha hb hi]
    exact mxU_set ha hb hi
  dsimp only [vecF]
  rw [hvW, hvW, hvW, ← hU64]
  apply wpV_seq; refine wpV_ofH (by ((try (conv => lhs; cbv)); (exact rfl))) ?_
  apply wpV_seq; apply wpV_seq; refine wpV_ofH (by ((try (conv => lhs; cbv)); (exact rfl))) ?_
  apply wpV_block
  refine wpV_loop 64 (fun i st => ∃ J : Int, st = ⟨0, [u, u, .one (.iv (.fn 108)), .one (.ptr 0 0), .one (.ptr 1 0), u, .one (.ptr 2 0), u, i64 J, u, u, u, u, u, u, u, u, u, u, u, u, u, u], [.var false [.iv (.arr 64 (W (U i)))], .var false [.iv (.arr 64 (W b))], .var false [.iv (.arr 64 zr)]]⟩ ∧ J = i) (by omega) (by ((try (conv => lhs; cbv)); (try (with_reducible rfl)))) ⟨0, by rw [hzr, hU0], rfl⟩ ?_
  rintro i hi st ⟨J, rfl, hJ⟩
  by_cases him : i < 64
  · have hul := hUl i hi
    have hus := hUs i J hJ him
    generalize U i = ui at *
    refine wpV_ofH (by ((try (conv => lhs; cbv)); (repeat ((first | (rewrite [k108]) | (rewrite [K.add]; rotate_left; focus ((try simp only [K.df, D.df, V.df, true_and, and_true]) <;> omega)) | (rewrite [K.at_]; rotate_left; focus ((try simp only [K.df, D.df, V.df, true_and, and_true]) <;> omega)) | (rewrite [V.getc]; rotate_left; focus ((try simp only [K.df, D.df, V.df, true_and, and_true]) <;> omega)) | (rewrite [V.setc]; rotate_left; focus ((try simp only [K.df, D.df, V.df, true_and, and_true]) <;> omega)) | (rewrite [K.ltT]; rotate_left; focus ((try simp only [K.df, D.df, V.df, true_and, and_true]) <;> omega))); (try (conv => lhs; cbv)))); (exact rfl))) ?_
    refine headQ_ofH (by ((try (conv => lhs; cbv)); (exact rfl))) ?_
    refine ⟨him, _, by rw [hus], ?_⟩
    rw [K.pl_]; omega
  · obtain rfl : i = 64 := by omega
    generalize U 64 = ue at *
    refine wpV_ofH (by ((try (conv => lhs; cbv)); (repeat ((first | (rewrite [K.ltF]; rotate_left; focus ((try simp only [K.df, D.df, V.df, true_and, and_true]) <;> omega))); (try (conv => lhs; cbv)))); (exact rfl))) ?_
    show wpV _ _ _ _ _ _
    refine wpV_ofH (by ((try (conv => lhs; cbv)); (exact rfl))) ?_
    (show finV _ _ _ = some _; ((try (conv => lhs; cbv)); (try (with_reducible rfl))); (try rfl))
theorem n77 {a b : List Int} (ha : a.length = 64) (hb : b.length = 64) : Pn 103 77 [vecF a, vecF b] [] (vecF (mxV a b)) [] := by
  refine playN 102 rfl rfl fun A call hA hcall => ?_
  have k := n107 ha hb 102 (by omega)
  rw [← hcall] at k
  obtain ⟨pl, mi, ml, nt, tn, ad, sb, K⟩ := kit hA
  obtain ⟨E, ix, sn, ll, cc, sg, D⟩ := lkit hA K ((0, 0) : Int × Int) (fun p => [.int .i64 p.1, .int .i64 p.2]) 16
  obtain ⟨W, gx, st', V⟩ := rkit hA
  dsimp only [vecF] at *
  generalize vec (mxV a b) = m at *
  generalize vec a = aa at *
  generalize vec b = bs at *
  refine wpV_ofH (by ((try (conv => lhs; cbv)); (repeat ((first | (rewrite [k])); (try (conv => lhs; cbv)))); (exact rfl))) ?_
  (show finV _ _ _ = some _; ((try (conv => lhs; cbv)); (try (with_reducible rfl))); (try rfl))
theorem n79 {a b : List Int} (ha : a.length = 64) (hb : b.length = 64) : Pn 102 79 [vecF a, vecF b] [] (vecF (mxV a b)) [] := by
  refine playN 101 rfl rfl fun A call hA hcall => ?_
  obtain ⟨pl, mi, ml, nt, tn, ad, sb, K⟩ := kit hA
  obtain ⟨E, ix, sn, ll, cc, sg, D⟩ := lkit hA K ((0, 0) : Int × Int) (fun p => [.int .i64 p.1, .int .i64 p.2]) 16
  obtain ⟨W, gx, st', V⟩ := rkit hA
  have hvW : ∀ v, vec v = W v := fun v => by rw [V.W_]; rfl
  obtain ⟨zr, hzr⟩ : ∃ zr : List IV, zr = [IV.int IntKind.i64 0, IV.int IntKind.i64 0, IV.int IntKind.i64 0, IV.int IntKind.i64 0, IV.int IntKind.i64 0, IV.int IntKind.i64 0, IV.int IntKind.i64 0, IV.int IntKind.i64 0, IV.int IntKind.i64 0, IV.int IntKind.i64 0, IV.int IntKind.i64 0, IV.int IntKind.i64 0, IV.int IntKind.i64 0, IV.int IntKind.i64 0, IV.int IntKind.i64 0, IV.int IntKind.i64 0, IV.int IntKind.i64 0, IV.int IntKind.i64 0, IV.int IntKind.i64 0, IV.int IntKind.i64 0, IV.int IntKind.i64 0, IV.int IntKind.i64 0, IV.int IntKind.i64 0, IV.int IntKind.i64 0, IV.int IntKind.i64 0, IV.int IntKind.i64 0, IV.int IntKind.i64 0, IV.int IntKind.i64 0, IV.int IntKind.i64 0, IV.int IntKind.i64 0, IV.int IntKind.i64 0, IV.int IntKind.i64 0, IV.int IntKind.i64 0, IV.int IntKind.i64 0, IV.int IntKind.i64 0, IV.int IntKind.i64 0, IV.int IntKind.i64 0, IV.int IntKind.i64 0, IV.int IntKind.i64 0, IV.int IntKind.i64 0, IV.int IntKind.i64 0, IV.int IntKind.i64 0, IV.int IntKind.i64 0, IV.int IntKind.i64 0, IV.int IntKind.i64 0, IV.int IntKind.i64 0, IV.int IntKind.i64 0, IV.int IntKind.i64 0, IV.int IntKind.i64 0, IV.int IntKind.i64 0, IV.int IntKind.i64 0, IV.int IntKind.i64 0, IV.int IntKind.i64 0, IV.int IntKind.i64 0, IV.int IntKind.i64 0, IV.int IntKind.i64 0, IV.int IntKind.i64 0, IV.int IntKind.i64 0, IV.int IntKind.i64 0, IV.int IntKind.i64 0, IV.int IntKind.i64 0, IV.int IntKind.i64 0, IV.int IntKind.i64 0, IV.int IntKind.i64 0] := ⟨_, rfl⟩
  obtain ⟨U, hU⟩ : ∃ U : Nat → List Int, ∀ i, U i = mxU a b i := ⟨_, fun _ => rfl⟩
  have hU0 : U 0 = a := by rw [hU]; rfl
  have hU64 : U 64 = mxV a b := by rw [hU]; exact mxU_end ha hb
  have hUl : ∀ i, i ≤ 64 → (U i).length = 64 := fun i hi => by rw [hU]; exact mxU_len ha hb hi
  have hUg : ∀ (i : Nat), i < 64 → (U i).getD i 0 = a.getD i 0 := fun i hi => by rw [hU]; exact mxU_get ha hb hi
  have hUs : ∀ (i : Nat), i < 64 → (U i).set i (max (a.getD i 0) (b.getD i 0)) = U (i + 1) := fun i hi => by
    rw [hU, hU]; exact mxU_set ha hb hi
  have hUk : ∀ (i : Nat), i < 64 → b.getD i 0 ≤ a.getD i 0 → U i = U (i + 1) := fun i hi h => by rw [hU, hU]; exact mxU_keep ha hb hi h
  dsimp only [vecF]
  rw [hvW, hvW, hvW, ← hU64]
  apply wpV_seq; refine wpV_ofH (by ((try (conv => lhs; cbv)); (exact rfl))) ?_
  apply wpV_seq; apply wpV_seq; refine wpV_ofH (by ((try (conv => lhs; cbv)); (exact rfl))) ?_
  apply wpV_block
  refine wpV_loop 64 (fun i st => ∃ J : Int, st = ⟨0, [u, u, .one (.ptr 0 0), u, .one (.ptr 1 0), u, u, .agg [.iv (.arr 64 (W b))], i64 J, u, u, u, u, u, u, u, u, u, u, u, u, u], [.var false [.iv (.arr 64 (W (U i)))], .var false [.iv (.arr 64 zr)]]⟩ ∧ J = i) (by omega) (by ((try (conv => lhs; cbv)); (try (with_reducible rfl)))) ⟨0, by rw [hzr, hU0], rfl⟩ ?_
  rintro i hi st ⟨J, rfl, hJ⟩
  by_cases him : i < 64
  · have hul := hUl i hi
    have hug := hUg i him
    have hus := hUs i him
    have huk := hUk i him
    have hJn : J.toNat = i := by omega
    by_cases h : b.getD i 0 ≤ a.getD i 0
    · rw [← huk h]
      have h2 : b.getD J.toNat 0 ≤ (U i).getD J.toNat 0 := by rw [hJn, hug]; exact h
      generalize U i = ui at *
      refine wpV_ofH (by ((try (conv => lhs; cbv)); (repeat ((first | (rewrite [K.add]; rotate_left; focus ((try simp only [K.df, D.df, V.df, true_and, and_true]) <;> omega)) | (rewrite [K.at_]; rotate_left; focus ((try simp only [K.df, D.df, V.df, true_and, and_true]) <;> omega)) | (rewrite [V.getc]; rotate_left; focus ((try simp only [K.df, D.df, V.df, true_and, and_true]) <;> omega)) | (rewrite [K.ltT]; rotate_left; focus ((try simp only [K.df, D.df, V.df, true_and, and_true]) <;> omega)) | (rewrite [K.gtF]; rotate_left; focus ((try simp only [K.df, D.df, V.df, true_and, and_true]) <;> omega))); (try (conv => lhs; cbv)))); (exact rfl))) ?_
      refine headQ_ofH (by ((try (conv => lhs; cbv)); (exact rfl))) ?_
      refine ⟨him, _, rfl, ?_⟩
      rw [K.pl_]; omega
    · have h2 : (U i).getD J.toNat 0 < b.getD J.toNat 0 := by rw [hJn, hug]; omega
      have hs2 : st' (U i) J (gx b J) = U (i + 1) := by
        rw [V.st_, V.gx_, hJn, ← hus]
        congr 1; omega
      generalize U i = ui at *
      refine wpV_ofH (by ((try (conv => lhs; cbv)); (repeat ((first | (rewrite [K.add]; rotate_left; focus ((try simp only [K.df, D.df, V.df, true_and, and_true]) <;> omega)) | (rewrite [K.at_]; rotate_left; focus ((try simp only [K.df, D.df, V.df, true_and, and_true]) <;> omega)) | (rewrite [V.getc]; rotate_left; focus ((try simp only [K.df, D.df, V.df, true_and, and_true]) <;> omega)) | (rewrite [V.setc]; rotate_left; focus ((try simp only [K.df, D.df, V.df, true_and, and_true]) <;> omega)) | (rewrite [K.ltT]; rotate_left; focus ((try simp only [K.df, D.df, V.df, true_and, and_true]) <;> omega)) | (rewrite [K.gtT]; rotate_left; focus ((try simp only [K.df, D.df, V.df, true_and, and_true]) <;> omega))); (try (conv => lhs; cbv)))); (exact rfl))) ?_
      refine headQ_ofH (by ((try (conv => lhs; cbv)); (exact rfl))) ?_
      refine ⟨him, _, by rw [hs2], ?_⟩
      rw [K.pl_]; omega
  · obtain rfl : i = 64 := by omega
    generalize U 64 = ue at *
    refine wpV_ofH (by ((try (conv => lhs; cbv)); (repeat ((first | (rewrite [K.ltF]; rotate_left; focus ((try simp only [K.df, D.df, V.df, true_and, and_true]) <;> omega))); (try (conv => lhs; cbv)))); (exact rfl))) ?_
    show wpV _ _ _ _ _ _
    refine wpV_ofH (by ((try (conv => lhs; cbv)); (exact rfl))) ?_
    (show finV _ _ _ = some _; ((try (conv => lhs; cbv)); (try (with_reducible rfl))); (try rfl))
end Go.Proofs.Ytanpphoehajcgaa
