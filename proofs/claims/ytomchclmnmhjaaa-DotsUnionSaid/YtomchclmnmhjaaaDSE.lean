/- One form of a context, by the document's answer: gone through. -/
import Derived.Test.YtomchclmnmhjaaaDSD
set_option linter.unusedSimpArgs false
set_option linter.unusedVariables false
set_option maxRecDepth 100000
set_option maxHeartbeats 1000000
set_option cbv.maxSteps 10000000
namespace Go.Proofs.Ytomchclmnmhjaaa
open Go GoV

theorem itR_rng {l : List Dt} {u0 : List Int} (h : ∀ k, 0 ≤ u0.getD k 0 ∧ u0.getD k 0 ≤ 1073741824) : ∀ (m : List Dt) (uv : List Int), (∀ k, 0 ≤ uv.getD k 0 ∧ uv.getD k 0 ≤ 1073741824) → ∀ k, 0 ≤ (m.foldl stR uv).getD k 0 ∧ (m.foldl stR uv).getD k 0 ≤ 1073741824
  | [], _, h2 => h2
  | d :: m, uv, h2 => by
    refine itR_rng (l := l) h m _ fun k => ?_
    unfold stR
    split
    · rename_i hv
      have h3 := hv.1.2.2
      exact set_rng h2 (by omega) (by omega) k
    · exact h2 k
def refU (v : List Int) (l : List Dt) : List Int := itR l (clampV v) l.length
def refC (v : List Int) (l : List Dt) : List Dt := l.foldl (stC (refU v l)) []
theorem h35 {v : List Int} (hv : v.length = 64) (l : List Dt) (t : Bool) (hl : l.length ≤ 1000) :
    Qn 2302 35 [ctxF t v l] [] (.agg [.iv (.arr 64 (vec (refU v l))), .slo 0 0 (refC v l).length]) [.arr false false 2 (eDs (refC v l))] := by
  refine playQ 2301 rfl rfl fun A call hA hcall => ?_
  obtain ⟨pl, mi, ml, nt, tn, ad, sb, K⟩ := kit hA
  obtain ⟨E, ix, sn, ll, cc, sg, D⟩ := lkit hA K ((0, 0) : Int × Int) (fun p => [.int .i64 p.1, .int .i64 p.2]) 16
  obtain ⟨W, gx, st', V⟩ := rkit hA
  have hE : ∀ l, eDs l = E l := fun l => by rw [D.E_]; rfl
  have hvW : ∀ v, vec v = W v := fun v => by rw [V.W_]; rfl
  have hE0 : E [] = [] := by rw [D.E_]; rfl
  have k19 : ∀ r n, call 19 [dotF (r, n)] [] = some (bl (validB (r, n)), []) := fun r n => by rw [hcall]; exact lift (n19 r n) 2301 (by omega)
  have k20 : ∀ a b c d, call 20 [dotF (a, b), dotF (c, d)] [] = some (bl (ltD (a, b) (c, d)), []) := fun a b c d => by rw [hcall]; exact lift (n20 a b c d) 2301 (by omega)
  have k38 : ∀ (uv : List Int) (q : List Dt) (r n : Int) (t : Bool), uv.length = 64 → q.length ≤ 1000 → call 38 [.agg [.iv (.arr 64 (W uv)), .iv (.sl t 2 (E q))], dotF (r, n)] [] = some (bl (knB uv q (r, n)), []) := fun uv q r n t h1 h2 => by
    rw [hcall]
    have := h38 h1 q (r, n) t h2 2301 (by omega)
    dsimp only [ctxF] at this
    rw [hE, hvW] at this
    exact this
  obtain ⟨M, hM⟩ : ∃ M : Int, M = nt (ll l) := ⟨_, rfl⟩
  have hMl : M = l.length := by rw [hM, K.nt_, D.ll_]
  have ln : A .len (E l) = M := by rw [D.len, hM]
  obtain ⟨clp, hclp⟩ : ∃ clp : Int → Int, ∀ x, clp x = cl0 x := ⟨_, fun _ => rfl⟩
  have mm : ∀ x, A .mi (A .mx x 0) 1073741824 = clp x := fun x => by rw [hA, hclp, real_mi, real_mx]; unfold cl0; (repeat' split) <;> omega
  obtain ⟨U, hU⟩ : ∃ U : Nat → List Int, ∀ i, U i = (clampV v).take i ++ List.replicate (64 - i) 0 := ⟨_, fun _ => rfl⟩
  have hUl : ∀ i, i ≤ 64 → (U i).length = 64 := fun i hi => by rw [hU, List.length_append, List.length_take, clampV_len hv, List.length_replicate]; omega
  have hU0 : [IV.int IntKind.i64 0, IV.int IntKind.i64 0, IV.int IntKind.i64 0, IV.int IntKind.i64 0, IV.int IntKind.i64 0, IV.int IntKind.i64 0, IV.int IntKind.i64 0, IV.int IntKind.i64 0, IV.int IntKind.i64 0, IV.int IntKind.i64 0, IV.int IntKind.i64 0, IV.int IntKind.i64 0, IV.int IntKind.i64 0, IV.int IntKind.i64 0, IV.int IntKind.i64 0, IV.int IntKind.i64 0, IV.int IntKind.i64 0, IV.int IntKind.i64 0, IV.int IntKind.i64 0, IV.int IntKind.i64 0, IV.int IntKind.i64 0, IV.int IntKind.i64 0, IV.int IntKind.i64 0, IV.int IntKind.i64 0, IV.int IntKind.i64 0, IV.int IntKind.i64 0, IV.int IntKind.i64 0, IV.int IntKind.i64 0, IV.int IntKind.i64 0, IV.int IntKind.i64 0, IV.int IntKind.i64 0, IV.int IntKind.i64 0, IV.int IntKind.i64 0, IV.int IntKind.i64 0, IV.int IntKind.i64 0, IV.int IntKind.i64 0, IV.int IntKind.i64 0, IV.int IntKind.i64 0, IV.int IntKind.i64 0, IV.int IntKind.i64 0, IV.int IntKind.i64 0, IV.int IntKind.i64 0, IV.int IntKind.i64 0, IV.int IntKind.i64 0, IV.int IntKind.i64 0, IV.int IntKind.i64 0, IV.int IntKind.i64 0, IV.int IntKind.i64 0, IV.int IntKind.i64 0, IV.int IntKind.i64 0, IV.int IntKind.i64 0, IV.int IntKind.i64 0, IV.int IntKind.i64 0, IV.int IntKind.i64 0, IV.int IntKind.i64 0, IV.int IntKind.i64 0, IV.int IntKind.i64 0, IV.int IntKind.i64 0, IV.int IntKind.i64 0, IV.int IntKind.i64 0, IV.int IntKind.i64 0, IV.int IntKind.i64 0, IV.int IntKind.i64 0, IV.int IntKind.i64 0] = W (U 0) := by rw [V.W_, hU]; rfl
  have hU64 : U 64 = clampV v := by rw [hU, List.take_of_length_le (by rw [clampV_len hv]; omega)]; simp
  have hUs : ∀ (i : Nat) (J : Int), J = i → i < 64 → st' (U i) J (clp (gx v J)) = U (i + 1) := fun i J hJ hi => by
    have hlt : i < (clampV v).length := by rw [clampV_len hv]; exact hi
    rw [V.st_, hclp, V.gx_, hJ, Int.toNat_natCast, hU, hU, List.take_succ_eq_append_getElem hlt]
    have e : (clampV v)[i] = cl0 (v.getD i 0) := by
      simp only [clampV, List.getElem_map]
      rw [List.getD_eq_getElem?_getD, List.getElem?_eq_getElem (by omega)]; rfl
    rw [e, show 64 - i = (64 - (i + 1)) + 1 by omega, List.replicate_succ, List.set_append_right _ _ (by rw [List.length_take]; omega)]
    rw [List.length_take, Nat.min_eq_left (by omega), Nat.sub_self, List.set_cons_zero, List.append_assoc]; rfl
  obtain ⟨zr, hzr⟩ : ∃ zr, zr = W (U 0) := ⟨_, rfl⟩
  have hcv := clampV_len hv
  have hcr := clampV_rng v
  obtain ⟨UF, hUF⟩ : ∃ UF, UF = refU v l := ⟨_, rfl⟩
  obtain ⟨CF, hCF⟩ : ∃ CF, CF = refC v l := ⟨_, rfl⟩
  have hCF2 : CF = l.foldl (stC UF) [] := by rw [hCF, hUF]; rfl
  have hUF2 : UF = itR l (clampV v) l.length := hUF
  rw [← hUF, ← hCF]
  dsimp only [ctxF]
  simp only [hE, hvW]
  apply wpV_seq; refine wpV_ofH (by ((try (conv => lhs; cbv)); (exact rfl))) ?_
  apply wpV_seq; refine wpV_ofH (by ((try (conv => lhs; cbv)); (exact rfl))) ?_
  apply wpV_seq; apply wpV_seq; refine wpV_ofH (by ((try (conv => lhs; cbv)); (exact rfl))) ?_
  apply wpV_block
  refine wpV_loop 64 (fun i st => ∃ J : Int, st = ⟨0, (u :: .one (.ptr 0 0) :: .one (.ptr 1 0) :: .one (.ptr 2 0) :: u :: u :: u :: u :: u :: u :: u :: u :: u :: u :: u :: u :: .agg [.iv (.arr 64 (W v))] :: i64 J :: u :: u :: u :: u :: u :: u :: u :: u :: u :: u :: u :: u :: u :: u :: u :: u :: u :: u :: u :: u :: u :: u :: u :: u :: u :: u :: u :: u :: u :: u :: u :: u :: u :: u :: u :: u :: u :: u :: u :: u :: u :: u :: u :: u :: u :: u :: u :: u :: u :: u :: u :: u :: u :: u :: u :: u :: u :: u :: u :: u :: u :: u :: u :: u :: u :: u :: u :: u :: u :: u :: u :: u :: u :: u :: u :: u :: u :: u :: u :: u :: u :: u :: u :: u :: u :: u :: u :: u :: u :: u :: u :: []), [.var false [.iv (.arr 64 (W v)), .iv (.sl t 2 (E l))], .var false [.iv (.arr 64 zr), .iv (.sl true 0 [])], .var false [.iv (.arr 64 (W (U i))), .slo 3 0 0], .arr false false 2 []]⟩ ∧ J = i) (by omega) (by ((try (conv => lhs; cbv)); (try (with_reducible rfl)))) ⟨0, by rw [hzr, ← hU0], rfl⟩ ?_
  rintro i hi st ⟨J, rfl, hJ⟩
  by_cases him : i < 64
  · have hul := hUl i hi
    have hus := hUs i J hJ him
    generalize U i = ui at *
    refine wpV_ofH (by ((try (conv => lhs; cbv)); (repeat ((first | (rewrite [mm]) | (rewrite [K.add]; rotate_left; focus ((try simp only [K.df, D.df, V.df, true_and, and_true]) <;> omega)) | (rewrite [K.at_]; rotate_left; focus ((try simp only [K.df, D.df, V.df, true_and, and_true]) <;> omega)) | (rewrite [V.getc]; rotate_left; focus ((try simp only [K.df, D.df, V.df, true_and, and_true]) <;> omega)) | (rewrite [V.setc]; rotate_left; focus ((try simp only [K.df, D.df, V.df, true_and, and_true]) <;> omega)) | (rewrite [K.ltT]; rotate_left; focus ((try simp only [K.df, D.df, V.df, true_and, and_true]) <;> omega))); (try (conv => lhs; cbv)))); (exact rfl))) ?_
    refine headQ_ofH (by ((try (conv => lhs; cbv)); (exact rfl))) ?_
    refine ⟨him, _, by rw [hus], ?_⟩
    rw [K.pl_]; omega
  · obtain rfl : i = 64 := by omega
    rw [hU64]
    generalize clampV v = u0 at *
    refine wpV_ofH (by ((try (conv => lhs; cbv)); (repeat ((first | (rewrite [K.ltF]; rotate_left; focus ((try simp only [K.df, D.df, V.df, true_and, and_true]) <;> omega))); (try (conv => lhs; cbv)))); (exact rfl))) ?_
    show wpV _ _ _ _ _ _
    apply wpV_seq; apply wpV_seq; refine wpV_ofH (by ((try (conv => lhs; cbv)); (repeat ((first | (rewrite [ln])); (try (conv => lhs; cbv)))); (exact rfl))) ?_
    apply wpV_block
    refine wpV_loop l.length (fun i st => ∃ (J : Int) (uv : List Int), st = ⟨0, (u :: .one (.ptr 0 0) :: .one (.ptr 1 0) :: .one (.ptr 2 0) :: u :: u :: u :: u :: u :: u :: u :: u :: u :: u :: u :: u :: u :: u :: u :: u :: u :: u :: u :: u :: u :: u :: u :: u :: u :: u :: i64 M :: i64 J :: u :: u :: u :: u :: u :: u :: u :: u :: u :: u :: u :: u :: u :: u :: u :: u :: u :: u :: u :: u :: u :: u :: u :: u :: u :: u :: u :: u :: u :: u :: u :: u :: u :: u :: u :: u :: u :: u :: u :: u :: u :: u :: u :: u :: u :: u :: u :: u :: u :: u :: u :: u :: u :: u :: u :: u :: u :: u :: u :: u :: u :: u :: u :: u :: u :: u :: u :: u :: u :: u :: u :: u :: u :: u :: u :: u :: u :: []), [.var false [.iv (.arr 64 (W v)), .iv (.sl t 2 (E l))], .var false [.iv (.arr 64 zr), .iv (.sl true 0 [])], .var false [.iv (.arr 64 (W uv)), .slo 3 0 0], .arr false false 2 []]⟩ ∧ J = i ∧ uv = itR l u0 i ∧ uv.length = 64 ∧ ∀ k, 0 ≤ uv.getD k 0 ∧ uv.getD k 0 ≤ 1073741824) (by omega) (by ((try (conv => lhs; cbv)); (try (with_reducible rfl)))) ⟨0, u0, rfl, rfl, rfl, hcv, hcr⟩ ?_
    rintro i hi st ⟨J, uv, rfl, hJ, huv, hul, hub⟩
    by_cases him : i < l.length
    · have hnext : l.foldl stR uv = itR l u0 (i + 1) := by rw [huv]; rfl
      have hnl := foldR_len l hul
      have hnr := itR_rng (l := l) hcr l uv hub
      obtain ⟨UN, hUN⟩ : ∃ UN, UN = l.foldl stR uv := ⟨_, rfl⟩
      rw [← hUN] at hnext hnl hnr
      apply wpV_seq; refine wpV_ofH (by ((try (conv => lhs; cbv)); (repeat ((first | (rewrite [K.ltT]; rotate_left; focus ((try simp only [K.df, D.df, V.df, true_and, and_true]) <;> omega))); (try (conv => lhs; cbv)))); (exact rfl))) ?_
      apply wpV_seq; refine wpV_ofH (by ((try (conv => lhs; cbv)); (exact rfl))) ?_
      apply wpV_seq; apply wpV_block
      apply wpV_seq; refine wpV_ofH (by ((try (conv => lhs; cbv)); (repeat ((first | (rewrite [ln])); (try (conv => lhs; cbv)))); (exact rfl))) ?_
      apply wpV_block
      refine wpV_loop l.length (fun i2 st => ∃ (J2 : Int) (ux : List Int), st = ⟨0, (u :: .one (.ptr 0 0) :: .one (.ptr 1 0) :: .one (.ptr 2 0) :: u :: u :: u :: u :: u :: u :: u :: u :: u :: u :: u :: u :: u :: u :: u :: u :: u :: u :: u :: u :: u :: u :: u :: u :: u :: u :: i64 M :: i64 J :: u :: u :: .one (.iv (.sl t 2 (E l))) :: i64 M :: i64 J2 :: u :: u :: u :: u :: u :: u :: u :: u :: u :: u :: u :: u :: u :: u :: u :: u :: u :: u :: u :: u :: u :: u :: u :: u :: u :: u :: u :: u :: u :: u :: u :: u :: u :: u :: u :: u :: u :: u :: u :: u :: u :: u :: u :: u :: u :: u :: u :: u :: u :: u :: u :: u :: u :: u :: u :: u :: u :: u :: u :: u :: u :: u :: u :: u :: u :: u :: u :: u :: u :: u :: u :: u :: []), [.var false [.iv (.arr 64 (W v)), .iv (.sl t 2 (E l))], .var false [.iv (.arr 64 zr), .iv (.sl true 0 [])], .var false [.iv (.arr 64 (W ux)), .slo 3 0 0], .arr false false 2 []]⟩ ∧ J2 = i2 ∧ ux.length = 64 ∧ (∀ k, 0 ≤ ux.getD k 0 ∧ ux.getD k 0 ≤ 1073741824) ∧ (l.drop i2).foldl stR ux = UN) (by omega) (by ((try (conv => lhs; cbv)); (try (with_reducible rfl)))) ⟨0, uv, rfl, rfl, hul, hub, hUN.symm⟩ ?_
      rintro i2 hi2 st ⟨J2, ux, rfl, hJ2, hxl, hxb, hgo⟩
      by_cases him2 : i2 < l.length
      · have hd : l.drop i2 = ix l J2 :: l.drop (i2 + 1) := by
          rw [D.ix_, hJ2, Int.toNat_natCast, List.drop_eq_getElem_cons (by omega), List.getD_eq_getElem?_getD, List.getElem?_eq_getElem (by omega)]; rfl
        have g := D.get (l := l) (J := J2) (by omega)
        rw [hd, List.foldl_cons] at hgo
        generalize ix l J2 = d at *
        obtain ⟨r, n⟩ := d
        have k := k19 r n
        dsimp only at g k
        have hbr := hxb r.toNat
        cases hb : validB (r, n) with
        | false =>
          rw [hb] at k
          have : stR ux (r, n) = ux := by
            unfold stR
            rw [if_neg fun h => by rw [(validB_VD _).2 h.1] at hb; cases hb]
          rw [this] at hgo
          refine wpV_ofH (by ((try (conv => lhs; cbv)); (repeat ((first | (rewrite [g]) | (rewrite [k]) | (rewrite [K.add]; rotate_left; focus ((try simp only [K.df, D.df, V.df, true_and, and_true]) <;> omega)) | (rewrite [K.ltT]; rotate_left; focus ((try simp only [K.df, D.df, V.df, true_and, and_true]) <;> omega))); (try (conv => lhs; cbv)))); (exact rfl))) ?_
          refine headQ_ofH (by ((try (conv => lhs; cbv)); (exact rfl))) ?_
          refine ⟨him2, _, _, rfl, ?_, hxl, hxb, hgo⟩
          rw [K.pl_]; omega
        | true =>
          rw [hb] at k
          have hr := validB_r hb
          dsimp only at hr
          by_cases e : n = ux.getD r.toNat 0 + 1
          · have : stR ux (r, n) = st' ux r n := by
              unfold stR
              rw [if_pos ⟨(validB_VD _).1 hb, e⟩, V.st_]; rfl
            rw [this] at hgo
            refine wpV_ofH (by ((try (conv => lhs; cbv)); (repeat ((first | (rewrite [g]) | (rewrite [k]) | (rewrite [K.add]; rotate_left; focus ((try simp only [K.df, D.df, V.df, true_and, and_true]) <;> omega)) | (rewrite [K.at_]; rotate_left; focus ((try simp only [K.df, D.df, V.df, true_and, and_true]) <;> omega)) | (rewrite [V.getc]; rotate_left; focus ((try simp only [K.df, D.df, V.df, true_and, and_true]) <;> omega)) | (rewrite [V.setc]; rotate_left; focus ((try simp only [K.df, D.df, V.df, true_and, and_true]) <;> omega)) | (rewrite [K.ltT]; rotate_left; focus ((try simp only [K.df, D.df, V.df, true_and, and_true]) <;> omega)) | (rewrite [K.eqT]; rotate_left; focus ((try simp only [K.df, D.df, V.df, true_and, and_true]) <;> omega))); (try (conv => lhs; cbv)))); (exact rfl))) ?_
            refine headQ_ofH (by ((try (conv => lhs; cbv)); (exact rfl))) ?_
            refine ⟨him2, _, _, rfl, ?_, ?_, ?_, hgo⟩
            · rw [K.pl_]; omega
            · rw [V.st_, List.length_set]; exact hxl
            · rw [V.st_]; exact set_rng hxb (by omega) (by omega)
          · have : stR ux (r, n) = ux := by
              unfold stR
              rw [if_neg fun h => e h.2]
            rw [this] at hgo
            refine wpV_ofH (by ((try (conv => lhs; cbv)); (repeat ((first | (rewrite [g]) | (rewrite [k]) | (rewrite [K.add]; rotate_left; focus ((try simp only [K.df, D.df, V.df, true_and, and_true]) <;> omega)) | (rewrite [K.at_]; rotate_left; focus ((try simp only [K.df, D.df, V.df, true_and, and_true]) <;> omega)) | (rewrite [V.getc]; rotate_left; focus ((try simp only [K.df, D.df, V.df, true_and, and_true]) <;> omega)) | (rewrite [K.ltT]; rotate_left; focus ((try simp only [K.df, D.df, V.df, true_and, and_true]) <;> omega)) | (rewrite [K.eqF]; rotate_left; focus ((try simp only [K.df, D.df, V.df, true_and, and_true]) <;> omega))); (try (conv => lhs; cbv)))); (exact rfl))) ?_
            refine headQ_ofH (by ((try (conv => lhs; cbv)); (exact rfl))) ?_
            refine ⟨him2, _, _, rfl, ?_, hxl, hxb, hgo⟩
            rw [K.pl_]; omega
      · obtain rfl : i2 = l.length := by omega
        rw [List.drop_of_length_le (Nat.le_refl _), List.foldl_nil] at hgo
        subst hgo
        refine wpV_ofH (by ((try (conv => lhs; cbv)); (repeat ((first | (rewrite [K.ltF]; rotate_left; focus ((try simp only [K.df, D.df, V.df, true_and, and_true]) <;> omega))); (try (conv => lhs; cbv)))); (exact rfl))) ?_
        show wpV _ _ _ _ _ _
        refine wpV_ofH (by ((try (conv => lhs; cbv)); (repeat ((first | (rewrite [K.add]; rotate_left; focus ((try simp only [K.df, D.df, V.df, true_and, and_true]) <;> omega))); (try (conv => lhs; cbv)))); (exact rfl))) ?_
        refine headQ_ofH (by ((try (conv => lhs; cbv)); (exact rfl))) ?_
        refine ⟨him, _, _, rfl, ?_, hnext, hnl, hnr⟩
        rw [K.pl_]; omega
    · obtain rfl : i = l.length := by omega
      rw [← hUF2] at huv
      subst huv
      have hnot : ∀ (q : List Dt) (d : Dt), validB d = true → (stC uv q d = if knB uv q d = true then q else q.take (posGo d q 0 0) ++ [d] ++ q.drop (posGo d q 0 0)) := fun q d hb => by
        have hv := (validB_VD d).1 hb
        have e : (¬ VD d ∨ d.2 ≤ gU uv d.1 ∨ d ∈ q) ↔ knB uv q d = true := by
          unfold knB hasV
          rw [hb]
          simp [hv]
        unfold stC
        by_cases h : knB uv q d = true
        · rw [if_pos h, if_pos (e.2 h)]
        · rw [if_neg h, if_neg fun h' => h (e.1 h')]
      have hnotv : ∀ (q : List Dt) (d : Dt), validB d = false → stC uv q d = q := fun q d hb => by
        unfold stC
        rw [if_pos (.inl fun h => by rw [(validB_VD d).2 h] at hb; cases hb)]
      have hpos : ∀ (d : Dt) (q : List Dt) (i k : Nat), k ≤ i → posGo d q i k ≤ i + q.length := by
        intro d q
        induction q with
        | nil => intro i k h; simpa [posGo] using h
        | cons x r ih =>
          intro i k h
          rw [posGo]
          have := ih (i + 1) (if LD x d then i + 1 else k) (by split <;> omega)
          rw [List.length_cons]; omega
      refine wpV_ofH (by ((try (conv => lhs; cbv)); (repeat ((first | (rewrite [K.ltF]; rotate_left; focus ((try simp only [K.df, D.df, V.df, true_and, and_true]) <;> omega))); (try (conv => lhs; cbv)))); (exact rfl))) ?_
      show wpV _ _ _ _ _ _
      apply wpV_seq; apply wpV_seq; refine wpV_ofH (by ((try (conv => lhs; cbv)); (repeat ((first | (rewrite [ln])); (try (conv => lhs; cbv)))); (exact rfl))) ?_
      apply wpV_block
      refine wpV_loop l.length (fun i st => ∃ (J : Int) (q : List Dt) (m : Nat), st = ⟨0, (u :: u :: .one (.ptr 0 0) :: .one (.ptr 1 0) :: u :: u :: u :: u :: u :: u :: u :: u :: u :: u :: u :: u :: u :: u :: u :: u :: u :: u :: u :: u :: u :: u :: u :: u :: u :: u :: u :: u :: u :: u :: u :: u :: u :: u :: u :: u :: u :: u :: u :: u :: u :: u :: u :: u :: u :: u :: u :: u :: u :: u :: u :: u :: u :: u :: u :: u :: u :: u :: .one (.iv (.sl t 2 (E l))) :: i64 M :: i64 J :: u :: u :: u :: u :: u :: u :: u :: u :: u :: u :: u :: u :: u :: u :: u :: u :: u :: u :: u :: u :: u :: u :: u :: u :: u :: u :: u :: u :: u :: u :: u :: u :: u :: u :: u :: u :: u :: u :: u :: u :: u :: u :: u :: u :: []), [.var false [.iv (.arr 64 zr), .iv (.sl true 0 [])], .var false [.iv (.arr 64 (W uv)), .slo 2 0 m], .arr false false 2 (E q)]⟩ ∧ J = i ∧ m = q.length ∧ m ≤ i ∧ (l.drop i).foldl (stC uv) q = CF) (by omega) (by ((try (conv => lhs; cbv)); (try (with_reducible rfl)))) ⟨0, [], 0, by rw [hE0], rfl, rfl, by omega, hCF2.symm⟩ ?_
      rintro i hi st ⟨J, q, m, rfl, hJ, hm, hmi, hgo⟩
      by_cases him : i < l.length
      · have hd : l.drop i = ix l J :: l.drop (i + 1) := by
          rw [D.ix_, hJ, Int.toNat_natCast, List.drop_eq_getElem_cons (by omega), List.getD_eq_getElem?_getD, List.getElem?_eq_getElem (by omega)]; rfl
        have g := D.get (l := l) (J := J) (by omega)
        rw [hd, List.foldl_cons] at hgo
        generalize ix l J = d at *
        obtain ⟨r, n⟩ := d
        have k := k19 r n
        have kk := fun t => k38 uv q r n t hul (by omega)
        have sq : A .seg (E q) 0 m = E q := by rw [D.seg, D.sg_, hm, List.drop_zero, List.take_length]
        dsimp only at g k
        cases hb : validB (r, n) with
        | false =>
          rw [hb] at k
          rw [hnotv q _ hb] at hgo
          apply wpV_seq; refine wpV_ofH (by ((try (conv => lhs; cbv)); (repeat ((first | (rewrite [K.ltT]; rotate_left; focus ((try simp only [K.df, D.df, V.df, true_and, and_true]) <;> omega))); (try (conv => lhs; cbv)))); (exact rfl))) ?_
          apply wpV_seq; refine wpV_ofH (by ((try (conv => lhs; cbv)); (exact rfl))) ?_
          refine wpV_ofH (by ((try (conv => lhs; cbv)); (repeat ((first | (rewrite [g]) | (rewrite [k]) | (rewrite [K.add]; rotate_left; focus ((try simp only [K.df, D.df, V.df, true_and, and_true]) <;> omega))); (try (conv => lhs; cbv)))); (exact rfl))) ?_
          refine headQ_ofH (by ((try (conv => lhs; cbv)); (exact rfl))) ?_
          refine ⟨him, _, q, m, rfl, ?_, hm, by omega, hgo⟩
          rw [K.pl_]; omega
        | true =>
          rw [hb] at k
          rw [hnot q _ hb] at hgo
          cases hk : knB uv q (r, n) with
          | true =>
            rw [hk] at kk
            rw [hk, if_pos rfl] at hgo
            apply wpV_seq; refine wpV_ofH (by ((try (conv => lhs; cbv)); (repeat ((first | (rewrite [K.ltT]; rotate_left; focus ((try simp only [K.df, D.df, V.df, true_and, and_true]) <;> omega))); (try (conv => lhs; cbv)))); (exact rfl))) ?_
            apply wpV_seq; refine wpV_ofH (by ((try (conv => lhs; cbv)); (exact rfl))) ?_
            refine wpV_ofH (by ((try (conv => lhs; cbv)); (repeat ((first | (rewrite [g]) | (rewrite [k]) | (rewrite [sq]) | (rewrite [kk]) | (rewrite [K.add]; rotate_left; focus ((try simp only [K.df, D.df, V.df, true_and, and_true]) <;> omega))); (try (conv => lhs; cbv)))); (exact rfl))) ?_
            refine headQ_ofH (by ((try (conv => lhs; cbv)); (exact rfl))) ?_
            refine ⟨him, _, q, m, rfl, ?_, hm, by omega, hgo⟩
            rw [K.pl_]; omega
          | false =>
            rw [hk] at kk
            rw [hk, if_neg (by decide)] at hgo
            obtain ⟨P, hP⟩ : ∃ P, P = posGo (r, n) q 0 0 := ⟨_, rfl⟩
            have hPm : P ≤ m := by rw [hP, hm]; have := hpos (r, n) q 0 0 (Nat.le_refl _); omega
            rw [← hP] at hgo
            obtain ⟨MQ, hMQ⟩ : ∃ MQ : Int, MQ = nt m := ⟨_, rfl⟩
            have hMQ2 : MQ = (m : Int) := by rw [hMQ, K.nt_]
            have ofm : A .ofN m = MQ := by rw [K.ofN, hMQ]
            obtain ⟨AP, hAP⟩ : ∃ AP : Int, AP = P := ⟨_, rfl⟩
            obtain ⟨R2, hR2⟩ : ∃ R2, R2 = m - P := ⟨_, rfl⟩
            obtain ⟨q1, hq1⟩ : ∃ q1, q1 = q.take P := ⟨_, rfl⟩
            obtain ⟨q2, hq2⟩ : ∃ q2, q2 = q1 ++ [(r, n)] := ⟨_, rfl⟩
            obtain ⟨q3, hq3⟩ : ∃ q3, q3 = q.drop P := ⟨_, rfl⟩
            obtain ⟨qn, hqn⟩ : ∃ qn, qn = q2 ++ q3 := ⟨_, rfl⟩
            rw [← hq1, ← hq3, ← hq2, ← hqn] at hgo
            obtain ⟨p1, hp1⟩ : ∃ p1, p1 = q1.length := ⟨_, rfl⟩
            obtain ⟨p2, hp2⟩ : ∃ p2, p2 = q2.length := ⟨_, rfl⟩
            obtain ⟨pn, hpn⟩ : ∃ pn, pn = qn.length := ⟨_, rfl⟩
            have e1 : q1.length = P := by rw [hq1, List.length_take]; omega
            have e2 : q2.length = P + 1 := by rw [hq2, List.length_append, e1]; rfl
            have e3 : q3.length = m - P := by rw [hq3, List.length_drop]; omega
            have en : qn.length = m + 1 := by rw [hqn, List.length_append, e2, e3]; omega
            have hEl : ∀ x : List Dt, (E x).length = x.length := fun x => by rw [D.E_, List.length_map]
            have cu1 : A .cuts 0 m (A .ln (E q)) none (some AP) none = some (0, P) := by
              rw [hA]
              show rCuts 0 m (E q).length none (some AP) none = _
              rw [hEl, hAP]
              simp [rCuts, rBound, ← hm, hPm]
            have cu2 : A .cuts 0 m (A .ln (E q)) (some AP) none none = some (P, R2) := by
              rw [hA]
              show rCuts 0 m (E q).length (some AP) none none = _
              rw [hEl, hAP]
              simp [rCuts, rBound, ← hm, hPm, hR2]
            have s1 : A .seg (E q) 0 P = E q1 := by rw [D.seg, D.sg_, List.drop_zero, hq1]
            have s3 : A .seg (E q) P R2 = E q3 := by rw [D.seg, D.sg_, hq3, hR2, List.take_of_length_le (by rw [List.length_drop]; omega)]
            have a1 : A .apo 16 0 0 [] (E q1) = some (true, E q1) := by
              have := D.apoL (l := []) (m := q1) (b := 16) (n := 0) ⟨rfl, by simp; omega⟩
              rw [hE0, D.cc_, List.nil_append] at this
              exact this
            have a2 : A .apo 16 0 p1 (E q1) [[.int .i64 r, .int .i64 n]] = some (true, E q2) := by
              have := D.apo (l := q1) (x := (r, n)) (b := 16) (n := p1) ⟨hp1, by omega⟩
              rw [D.sn_, ← hq2] at this
              exact this
            have a3 : A .apo 16 0 p2 (E q2) (E q3) = some (true, E qn) := by
              have := D.apoL (l := q2) (m := q3) (b := 16) (n := p2) ⟨hp2, by omega⟩
              rw [D.cc_, ← hqn] at this
              exact this
            have l1 : A .ln (E q1) = p1 := by rw [D.ln, D.ll_, hp1]
            have l2 : A .ln (E q2) = p2 := by rw [D.ln, D.ll_, hp2]
            have l3 : A .ln (E qn) = pn := by rw [D.ln, D.ll_, hpn]
            apply wpV_seq; refine wpV_ofH (by ((try (conv => lhs; cbv)); (repeat ((first | (rewrite [K.ltT]; rotate_left; focus ((try simp only [K.df, D.df, V.df, true_and, and_true]) <;> omega))); (try (conv => lhs; cbv)))); (exact rfl))) ?_
            apply wpV_seq; refine wpV_ofH (by ((try (conv => lhs; cbv)); (exact rfl))) ?_
            apply wpV_seq; apply wpV_block
            apply wpV_seq; refine wpV_ofH (by ((try (conv => lhs; cbv)); (repeat ((first | (rewrite [g])); (try (conv => lhs; cbv)))); (exact rfl))) ?_
            apply wpV_seq; refine wpV_ofH (by ((try (conv => lhs; cbv)); (repeat ((first | (rewrite [k]) | (rewrite [sq]) | (rewrite [kk])); (try (conv => lhs; cbv)))); (exact rfl))) ?_
            apply wpV_seq; refine wpV_ofH (by ((try (conv => lhs; cbv)); (exact rfl))) ?_
            apply wpV_seq; apply wpV_seq; refine wpV_ofH (by ((try (conv => lhs; cbv)); (repeat ((first | (rewrite [ofm])); (try (conv => lhs; cbv)))); (exact rfl))) ?_
            apply wpV_block
            refine wpV_loop m (fun i4 st => ∃ (J4 AT : Int) (at_ : Nat), st = ⟨0, (u :: u :: .one (.ptr 0 0) :: .one (.ptr 1 0) :: u :: u :: u :: u :: u :: .one (.ptr 2 0) :: i64 AT :: u :: u :: u :: u :: u :: u :: u :: u :: u :: u :: u :: u :: u :: u :: u :: u :: u :: u :: u :: u :: u :: u :: u :: u :: u :: u :: u :: u :: u :: u :: u :: u :: u :: u :: u :: u :: u :: u :: u :: u :: u :: u :: u :: u :: u :: u :: u :: u :: u :: u :: u :: .one (.iv (.sl t 2 (E l))) :: i64 M :: i64 J :: u :: u :: u :: u :: u :: u :: u :: u :: u :: u :: u :: u :: .one (.slo 3 0 m) :: i64 MQ :: i64 J4 :: u :: u :: u :: u :: u :: u :: u :: u :: u :: u :: u :: u :: u :: u :: u :: u :: u :: u :: u :: u :: u :: u :: u :: u :: u :: u :: u :: u :: u :: []), [.var false [.iv (.arr 64 zr), .iv (.sl true 0 [])], .var false [.iv (.arr 64 (W uv)), .slo 3 0 m], .var false [.iv (.int .i64 r), .iv (.int .i64 n)], .arr false false 2 (E q)]⟩ ∧ J4 = i4 ∧ AT = at_ ∧ posGo (r, n) (q.drop i4) i4 at_ = P) (by omega) (by ((try (conv => lhs; cbv)); (try (with_reducible rfl)))) ⟨0, 0, 0, rfl, rfl, rfl, hP.symm⟩ ?_
            rintro i4 hi4 st ⟨J4, AT, at_, rfl, hJ4, hAT, hgo4⟩
            by_cases him4 : i4 < m
            · have hd4 : q.drop i4 = ix q J4 :: q.drop (i4 + 1) := by
                rw [D.ix_, hJ4, Int.toNat_natCast, List.drop_eq_getElem_cons (by omega), List.getD_eq_getElem?_getD, List.getElem?_eq_getElem (by omega)]; rfl
              have g4 := D.getN (l := q) (J := J4) (by omega)
              rw [hd4, posGo] at hgo4
              generalize ix q J4 = x at *
              obtain ⟨x1, x2⟩ := x
              have k4 := k20 x1 x2 r n
              dsimp only at g4 k4
              have hlt : ltD (x1, x2) (r, n) = true ↔ LD (x1, x2) (r, n) := by unfold ltD LD; rw [decide_eq_true_eq]
              cases hl4 : ltD (x1, x2) (r, n) with
              | true =>
                rw [hl4] at k4
                rw [if_pos (hlt.1 hl4)] at hgo4
                refine wpV_ofH (by ((try (conv => lhs; cbv)); (repeat ((first | (rewrite [g4]) | (rewrite [k4]) | (rewrite [K.add]; rotate_left; focus ((try simp only [K.df, D.df, V.df, true_and, and_true]) <;> omega)) | (rewrite [K.at_]; rotate_left; focus ((try simp only [K.df, D.df, V.df, true_and, and_true]) <;> omega)) | (rewrite [K.ltT]; rotate_left; focus ((try simp only [K.df, D.df, V.df, true_and, and_true]) <;> omega))); (try (conv => lhs; cbv)))); (exact rfl))) ?_
                refine headQ_ofH (by ((try (conv => lhs; cbv)); (exact rfl))) ?_
                refine ⟨him4, _, _, i4 + 1, rfl, ?_, ?_, hgo4⟩
                · rw [K.pl_]; omega
                · rw [K.pl_]; omega
              | false =>
                rw [hl4] at k4
                rw [if_neg fun h => by rw [hlt.2 h] at hl4; cases hl4] at hgo4
                refine wpV_ofH (by ((try (conv => lhs; cbv)); (repeat ((first | (rewrite [g4]) | (rewrite [k4]) | (rewrite [K.add]; rotate_left; focus ((try simp only [K.df, D.df, V.df, true_and, and_true]) <;> omega)) | (rewrite [K.at_]; rotate_left; focus ((try simp only [K.df, D.df, V.df, true_and, and_true]) <;> omega)) | (rewrite [K.ltT]; rotate_left; focus ((try simp only [K.df, D.df, V.df, true_and, and_true]) <;> omega))); (try (conv => lhs; cbv)))); (exact rfl))) ?_
                refine headQ_ofH (by ((try (conv => lhs; cbv)); (exact rfl))) ?_
                refine ⟨him4, _, _, at_, rfl, ?_, hAT, hgo4⟩
                rw [K.pl_]; omega
            · obtain rfl : i4 = m := by omega
              rw [hm, List.drop_length, posGo] at hgo4
              obtain rfl : AT = AP := by rw [hAT, hAP, hgo4]
              refine wpV_ofH (by ((try (conv => lhs; cbv)); (repeat ((first | (rewrite [K.ltF]; rotate_left; focus ((try simp only [K.df, D.df, V.df, true_and, and_true]) <;> omega))); (try (conv => lhs; cbv)))); (exact rfl))) ?_
              show wpV _ _ _ _ _ _
              refine wpV_ofH (by ((try (conv => lhs; cbv)); (repeat ((first | (rewrite [cu1]) | (rewrite [s1]) | (rewrite [a1]) | (rewrite [l1]) | (rewrite [a2]) | (rewrite [l2]) | (rewrite [cu2]) | (rewrite [s3]) | (rewrite [a3]) | (rewrite [l3])); (try (conv => lhs; cbv)))); (exact rfl))) ?_
              show wpV _ _ _ _ _ _
              refine wpV_ofH (by ((try (conv => lhs; cbv)); (repeat ((first | (rewrite [K.add]; rotate_left; focus ((try simp only [K.df, D.df, V.df, true_and, and_true]) <;> omega))); (try (conv => lhs; cbv)))); (exact rfl))) ?_
              refine headQ_ofH (by ((try (conv => lhs; cbv)); (exact rfl))) ?_
              refine ⟨him, _, qn, pn, rfl, ?_, hpn, by omega, hgo⟩
              rw [K.pl_]; omega
      · obtain rfl : i = l.length := by omega
        rw [List.drop_of_length_le (Nat.le_refl _), List.foldl_nil] at hgo
        subst hgo
        rw [← hm]
        refine wpV_ofH (by ((try (conv => lhs; cbv)); (repeat ((first | (rewrite [K.ltF]; rotate_left; focus ((try simp only [K.df, D.df, V.df, true_and, and_true]) <;> omega))); (try (conv => lhs; cbv)))); (exact rfl))) ?_
        show wpV _ _ _ _ _ _
        refine wpV_ofH (by ((try (conv => lhs; cbv)); (exact rfl))) ?_
        (show finV _ _ _ = some _; ((try (conv => lhs; cbv)); (try (with_reducible rfl))); (try rfl))
end Go.Proofs.Ytomchclmnmhjaaa
