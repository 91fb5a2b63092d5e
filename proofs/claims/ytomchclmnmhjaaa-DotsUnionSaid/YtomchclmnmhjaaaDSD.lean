/- One form of a context, by the program: gone through. -/
import Derived.Test.YtomchclmnmhjaaaDSC
set_option linter.unusedSimpArgs false
set_option linter.unusedVariables false
set_option maxRecDepth 100000
set_option maxHeartbeats 1000000
set_option cbv.maxSteps 10000000
namespace Go.Proofs.Ytomchclmnmhjaaa
open Go GoV

def cl0 (x : Int) : Int := min (max x 0) 1073741824
def clampV (v : List Int) : List Int := v.map cl0
theorem clampV_len {v : List Int} (hv : v.length = 64) : (clampV v).length = 64 := by rw [clampV, List.length_map]; exact hv
def tid (v : List Int) (l : List Dt) : List Int × List Dt := (srtD (kept l)).foldl stP (clampV v, [])
theorem clampV_rng (v : List Int) (k : Nat) : 0 ≤ (clampV v).getD k 0 ∧ (clampV v).getD k 0 ≤ 1073741824 := by
  rw [List.getD_eq_getElem?_getD, clampV, List.getElem?_map]
  cases v[k]? with
  | none => simp
  | some x => simp only [Option.map_some, Option.getD_some, cl0]; omega
theorem set_rng {uv : List Int} (h : ∀ k, 0 ≤ uv.getD k 0 ∧ uv.getD k 0 ≤ 1073741824) {j : Nat} {n : Int} (h0 : 0 ≤ n) (h1 : n ≤ 1073741824) (k : Nat) : 0 ≤ (uv.set j n).getD k 0 ∧ (uv.set j n).getD k 0 ≤ 1073741824 := by
  have := h k
  rw [List.getD_eq_getElem?_getD] at this ⊢
  rw [List.getElem?_set]
  split
  · split
    · exact ⟨h0, h1⟩
    · simp
  · exact this
theorem k83of (l : List Dt) (t : Bool) (hl : l.length ≤ 1000) (m : Nat) : play real (lookT tab) prD (m + 1) 83 [.one (.iv (.sl t 2 (eDs l)))] [] = some (.one (.slo 0 0 l.length), [.arr false false 2 (eDs l)]) := by
  have hll : (eDs l).length = l.length := by simp [eDs]
  have e1 : real .app 16 [] (eDs l) = some (false, eDs l) := by
    rw [real_app]
    unfold rApp room
    rw [if_neg (by simp), if_pos (by simp [hll]; omega)]
    rfl
  have e2 : real .ln (eDs l) = l.length := hll
  have hT : lookT tab 83 = none := rfl
  simp only [play, hT]
  show growPr 120 [true, true] (sortPr 85 [true, true] 17 cfD clones) 83 _ _ = _
  unfold growPr
  rw [show Nat.beq 83 120 = false from rfl, cond_false]
  unfold sortPr
  rw [show Nat.beq 83 85 = false from rfl, cond_false]
  have hc : ∀ vs bs, clonePr clones 83 vs bs = cloneV 2 16 vs bs := fun vs bs => by simp only [clones, clonePr]; rfl
  rw [hc]
  simp only [cloneV, show okE 2 2 = true from rfl, cond_true, e1, e2]
theorem validB_VD (d : Dt) : validB d = true ↔ VD d := by
  unfold validB VD
  rw [decide_eq_true_eq]
theorem h34 {v : List Int} (hv : v.length = 64) (l : List Dt) (t : Bool) (hl : l.length ≤ 1000) :
    Qn 3302 34 [ctxF t v l] [] (.agg [.iv (.arr 64 (vec (tid v l).1)), .slo 0 0 (tid v l).2.length]) [.arr false false 2 (eDs (tid v l).2)] := by
  refine playQ 3301 rfl rfl fun A call hA hcall => ?_
  obtain ⟨pl, mi, ml, nt, tn, ad, sb, K⟩ := kit hA
  obtain ⟨E, ix, sn, ll, cc, sg, D⟩ := lkit hA K ((0, 0) : Int × Int) (fun p => [.int .i64 p.1, .int .i64 p.2]) 16
  obtain ⟨W, gx, st', V⟩ := rkit hA
  have hE : ∀ l, eDs l = E l := fun l => by rw [D.E_]; rfl
  have hvW : ∀ v, vec v = W v := fun v => by rw [V.W_]; rfl
  have hE0 : E [] = [] := by rw [D.E_]; rfl
  obtain ⟨c, hc⟩ : ∃ c, c = (kept l).length := ⟨_, rfl⟩
  have hcl : c ≤ l.length := by rw [hc]; exact List.length_filter_le _ _
  obtain ⟨Z, hZ⟩ : ∃ Z, Z = kept l ++ List.replicate (l.length - (kept l).length) ((0, 0) : Dt) := ⟨_, rfl⟩
  have hZt : Z.take c = kept l := by rw [hZ, hc, List.take_left]
  have hZl : Z.length = l.length := by rw [hZ, List.length_append, List.length_replicate]; omega
  obtain ⟨L, hL⟩ : ∃ L, L = srtD (kept l) := ⟨_, rfl⟩
  have hLl : L.length = c := by rw [hL, (srtD_perm _).length_eq, hc]
  obtain ⟨S, hS⟩ : ∃ S, S = srtD (Z.take c) ++ Z.drop c := ⟨_, rfl⟩
  have hSl : S.length = l.length := by rw [hS, hZt, ← hL, List.length_append, hLl, List.length_drop]; omega
  have hSi : ∀ i, i < c → S.getD i (0, 0) = L.getD i (0, 0) := fun i hi => by
    rw [hS, hZt, ← hL, List.getD_eq_getElem?_getD, List.getD_eq_getElem?_getD, List.getElem?_append_left (by omega)]
  have hLv : ∀ i, i < c → validB (L.getD i (0, 0)) = true := fun i hi => by
    have hm : L.getD i (0, 0) ∈ L := by rw [List.getD_eq_getElem?_getD, List.getElem?_eq_getElem (by omega)]; exact List.getElem_mem _
    rw [hL] at hm
    exact (List.mem_filter.1 ((srtD_perm _).subset (by rw [hL]; exact hm))).2
  have k83 : call 83 [.one (.iv (.sl t 2 (eDs l)))] [] = some (.one (.slo 0 0 l.length), [.arr false false 2 (eDs l)]) := by rw [hcall]; exact k83of l t hl 3300
  have k82 := h82 l hl 3301 (by omega)
  have k85 := q85 Z c (by omega) (by omega) false 3301 (by omega)
  rw [← hcall, ← hZ, ← hc] at k82
  rw [← hcall, ← hS] at k85
  obtain ⟨clp, hclp⟩ : ∃ clp : Int → Int, ∀ x, clp x = cl0 x := ⟨_, fun _ => rfl⟩
  have mm : ∀ x, A .mi (A .mx x 0) 1073741824 = clp x := fun x => by rw [hA, hclp, real_mi, real_mx]; unfold cl0; (repeat' split) <;> omega
  obtain ⟨U, hU⟩ : ∃ U : Nat → List Int, ∀ i, U i = (clampV v).take i ++ List.replicate (64 - i) 0 := ⟨_, fun _ => rfl⟩
  have hUl : ∀ i, i ≤ 64 → (U i).length = 64 := fun i hi => by rw [hU, List.length_append, List.length_take, clampV_len hv, List.length_replicate]; omega
  have hU0 : [IV.int IntKind.i64 0, IV.int IntKind.i64 0, IV.int IntKind.i64 0, IV.int IntKind.i64 0, IV.int IntKind.i64 0, IV.int IntKind.i64 0, IV.int IntKind.i64 0, IV.int IntKind.i64 0, IV.int IntKind.i64 0, IV.int IntKind.i64 0, IV.int IntKind.i64 0, IV.int IntKind.i64 0, IV.int IntKind.i64 0, IV.int IntKind.i64 0, IV.int IntKind.i64 0, IV.int IntKind.i64 0, IV.int IntKind.i64 0, IV.int IntKind.i64 0, IV.int IntKind.i64 0, IV.int IntKind.i64 0, IV.int IntKind.i64 0, IV.int IntKind.i64 0, IV.int IntKind.i64 0, IV.int IntKind.i64 0, IV.int IntKind.i64 0, IV.int IntKind.i64 0, IV.int IntKind.i64 0, IV.int IntKind.i64 0, IV.int IntKind.i64 0, IV.int IntKind.i64 0, IV.int IntKind.i64 0, IV.int IntKind.i64 0, IV.int IntKind.i64 0, IV.int IntKind.i64 0, IV.int IntKind.i64 0, IV.int IntKind.i64 0, IV.int IntKind.i64 0, IV.int IntKind.i64 0, IV.int IntKind.i64 0, IV.int IntKind.i64 0, IV.int IntKind.i64 0, IV.int IntKind.i64 0, IV.int IntKind.i64 0, IV.int IntKind.i64 0, IV.int IntKind.i64 0, IV.int IntKind.i64 0, IV.int IntKind.i64 0, IV.int IntKind.i64 0, IV.int IntKind.i64 0, IV.int IntKind.i64 0, IV.int IntKind.i64 0, IV.int IntKind.i64 0, IV.int IntKind.i64 0, IV.int IntKind.i64 0, IV.int IntKind.i64 0, IV.int IntKind.i64 0, IV.int IntKind.i64 0, IV.int IntKind.i64 0, IV.int IntKind.i64 0, IV.int IntKind.i64 0, IV.int IntKind.i64 0, IV.int IntKind.i64 0, IV.int IntKind.i64 0, IV.int IntKind.i64 0] = W (U 0) := by rw [V.W_, hU]; rfl
  have hU64 : U 64 = clampV v := by rw [hU, List.take_of_length_le (by rw [clampV_len hv]; omega)]; simp
  have hUs : ∀ (i : Nat) (J : Int), J = i → i < 64 → st' (U i) J (clp (gx v J)) = U (i + 1) := fun i J hJ hi => by
    have hlt : i < (clampV v).length := by rw [clampV_len hv]; exact hi
    rw [V.st_, hclp, V.gx_, hJ, Int.toNat_natCast, hU, hU, List.take_succ_eq_append_getElem hlt]
    have e : (clampV v)[i] = cl0 (v.getD i 0) := by
      simp only [clampV, List.getElem_map]
      rw [List.getD_eq_getElem?_getD, List.getElem?_eq_getElem (by omega)]; rfl
    rw [e, show 64 - i = (64 - (i + 1)) + 1 by omega, List.replicate_succ, List.set_append_right _ _ (by rw [List.length_take]; omega)]
    rw [List.length_take, Nat.min_eq_left (by omega), Nat.sub_self, List.set_cons_zero, List.append_assoc]; rfl
  obtain ⟨zr, hzr⟩ : ∃ zr, zr = W (U 0) := ⟨_, rfl⟩
  unfold tid
  rw [← hL]
  obtain ⟨R, hR⟩ : ∃ R, R = L.foldl stP (clampV v, []) := ⟨_, rfl⟩
  rw [← hR]
  dsimp only [ctxF]
  simp only [hE, hvW] at k83 k82 k85 ⊢
  apply wpV_seq; refine wpV_ofH (by ((try (conv => lhs; cbv)); (exact rfl))) ?_
  apply wpV_seq; refine wpV_ofH (by ((try (conv => lhs; cbv)); (exact rfl))) ?_
  apply wpV_seq; apply wpV_seq; refine wpV_ofH (by ((try (conv => lhs; cbv)); (exact rfl))) ?_
  apply wpV_block
  refine wpV_loop 64 (fun i st => ∃ J : Int, st = ⟨0, (u :: .one (.ptr 0 0) :: .one (.ptr 1 0) :: .one (.ptr 2 0) :: u :: u :: u :: u :: u :: u :: u :: .agg [.iv (.arr 64 (W v))] :: i64 J :: u :: u :: u :: u :: u :: u :: u :: u :: u :: u :: u :: u :: u :: u :: u :: u :: u :: u :: u :: u :: u :: u :: u :: u :: u :: u :: u :: u :: u :: u :: u :: u :: u :: u :: u :: u :: u :: u :: u :: u :: u :: u :: u :: u :: u :: u :: u :: u :: u :: u :: u :: u :: u :: u :: u :: u :: u :: u :: u :: u :: u :: u :: u :: u :: u :: u :: u :: u :: u :: u :: u :: []), [.var false [.iv (.arr 64 (W v)), .iv (.sl t 2 (E l))], .var false [.iv (.arr 64 zr), .iv (.sl true 0 [])], .var false [.iv (.arr 64 (W (U i))), .slo 3 0 0], .arr false false 2 []]⟩ ∧ J = i) (by omega) (by ((try (conv => lhs; cbv)); (try (with_reducible rfl)))) ⟨0, by rw [hzr, ← hU0], rfl⟩ ?_
  rintro i hi st ⟨J, rfl, hJ⟩
  by_cases him : i < 64
  · have hul := hUl i hi
    have hus := hUs i J hJ him
    generalize U i = ui at *
    refine wpV_ofH (by ((try (conv => lhs; cbv)); (repeat ((first | (rewrite [mm]) | (rewrite [K.add]; rotate_left; focus ((try simp only [K.df, D.df, V.df, true_and, and_true]) <;> omega)) | (rewrite [K.at_]; rotate_left; focus ((try simp only [K.df, D.df, V.df, true_and, and_true]) <;> omega)) | (rewrite [V.getc]; rotate_left; focus ((try simp only [K.df, D.df, V.df, true_and, and_true]) <;> omega)) | (rewrite [V.setc]; rotate_left; focus ((try simp only [K.df, D.df, V.df, true_and, and_true]) <;> omega)) | (rewrite [K.ltT]; rotate_left; focus ((try simp only [K.df, D.df, V.df, true_and, and_true]) <;> omega))); (try (conv => lhs; cbv)))); (exact rfl))) ?_
    refine headQ_ofH (by ((try (conv => lhs; cbv)); (exact rfl))) ?_
    refine ⟨him, _, by rw [hus], ?_⟩
    rw [K.pl_]; omega
  · obtain rfl : i = 64 := by omega
    rw [hU64]
    have k82' := k82
    have k85' := k85
    obtain ⟨cI, hcI⟩ : ∃ cI : Int, cI = nt c := ⟨_, rfl⟩
    have hcI2 : cI = (c : Int) := by rw [hcI, K.nt_]
    have ofc : A .ofN c = cI := by rw [K.ofN, hcI]
    have hcv := clampV_len hv
    have hcr := clampV_rng v
    generalize l.length = N at *
    generalize clampV v = u0 at *
    generalize W v = wv at *
    generalize hel : E l = el at *
    generalize hez : E Z = ez at *
    refine wpV_ofH (by ((try (conv => lhs; cbv)); (repeat ((first | (rewrite [K.ltF]; rotate_left; focus ((try simp only [K.df, D.df, V.df, true_and, and_true]) <;> omega))); (try (conv => lhs; cbv)))); (exact rfl))) ?_
    show wpV _ _ _ _ _ _
    apply wpV_seq; refine wpV_ofH (by ((try (conv => lhs; cbv)); (repeat ((first | (rewrite [k83]) | (rewrite [k82])); (try (conv => lhs; cbv)))); (exact rfl))) ?_
    apply wpV_seq; refine wpV_ofH (by ((try (conv => lhs; cbv)); (repeat ((first | (rewrite [k85])); (try (conv => lhs; cbv)))); (exact rfl))) ?_
    apply wpV_seq; apply wpV_seq; refine wpV_ofH (by ((try (conv => lhs; cbv)); (repeat ((first | (rewrite [ofc])); (try (conv => lhs; cbv)))); (exact rfl))) ?_
    apply wpV_block
    refine wpV_loop c (fun i st => ∃ (J : Int) (uv : List Int) (q : List Dt) (m : Nat), st = ⟨0, (u :: u :: .one (.ptr 0 0) :: .one (.ptr 1 0) :: u :: u :: u :: u :: u :: u :: u :: u :: u :: u :: u :: u :: u :: u :: u :: u :: u :: u :: u :: u :: u :: u :: u :: u :: u :: .one (.slo 2 0 c) :: i64 cI :: i64 J :: u :: u :: u :: u :: u :: u :: u :: u :: u :: u :: u :: u :: u :: u :: u :: u :: u :: u :: u :: u :: u :: u :: u :: u :: u :: u :: u :: u :: u :: u :: u :: u :: u :: u :: u :: u :: u :: u :: u :: u :: u :: u :: u :: u :: u :: u :: u :: u :: u :: u :: u :: u :: []), [.var false [.iv (.arr 64 zr), .iv (.sl true 0 [])], .var false [.iv (.arr 64 (W uv)), .slo 3 0 m], .arr false false 2 (E S), .arr false false 2 (E q)]⟩ ∧ J = i ∧ uv.length = 64 ∧ m = q.length ∧ m ≤ i ∧ (L.drop i).foldl stP (uv, q) = R ∧ ∀ k, 0 ≤ uv.getD k 0 ∧ uv.getD k 0 ≤ 1073741824) (by omega) (by ((try (conv => lhs; cbv)); (try (with_reducible rfl)))) ⟨0, u0, [], 0, by rw [hE0], rfl, hcv, rfl, by omega, hR.symm, hcr⟩ ?_
    rintro i hi st ⟨J, uv, q, m, rfl, hJ, hu, hm, hmi, hgo, hub⟩
    by_cases him : i < c
    · have hx : ix S J = L.getD i (0, 0) := by rw [D.ix_, hJ, Int.toNat_natCast]; exact hSi i him
      have hdr : L.drop i = ix S J :: L.drop (i + 1) := by
        rw [hx, List.drop_eq_getElem_cons (by omega), List.getD_eq_getElem?_getD, List.getElem?_eq_getElem (by omega)]; rfl
      have hvx := validB_r (hLv i him)
      rw [← hx] at hvx
      have g := D.getN (l := S) (J := J) (by omega)
      rw [hdr, List.foldl_cons] at hgo
      generalize ix S J = d at *
      obtain ⟨r, n⟩ := d
      dsimp only at g hvx
      have hgu : gU uv r = uv.getD r.toNat 0 := rfl
      have hbr := hub r.toNat
      have hJc : J < cI := by omega
      unfold stP at hgo
      dsimp only at hgo
      by_cases e : n = gU uv r + 1
      · rw [if_pos e] at hgo
        have hsu : st' uv r n = sU uv (r, n) := by rw [V.st_]; rfl
        rw [hgu] at e
        refine wpV_ofH (by ((try (conv => lhs; cbv)); (repeat ((first | (rewrite [g]) | (rewrite [K.add]; rotate_left; focus ((try simp only [K.df, D.df, V.df, true_and, and_true]) <;> omega)) | (rewrite [K.at_]; rotate_left; focus ((try simp only [K.df, D.df, V.df, true_and, and_true]) <;> omega)) | (rewrite [V.getc]; rotate_left; focus ((try simp only [K.df, D.df, V.df, true_and, and_true]) <;> omega)) | (rewrite [V.setc]; rotate_left; focus ((try simp only [K.df, D.df, V.df, true_and, and_true]) <;> omega)) | (rewrite [K.ltT]; rotate_left; focus ((try simp only [K.df, D.df, V.df, true_and, and_true]) <;> omega)) | (rewrite [K.eqT]; rotate_left; focus ((try simp only [K.df, D.df, V.df, true_and, and_true]) <;> omega))); (try (conv => lhs; cbv)))); (exact rfl))) ?_
        refine headQ_ofH (by ((try (conv => lhs; cbv)); (exact rfl))) ?_
        refine ⟨him, _, _, q, m, rfl, ?_, ?_, hm, by omega, ?_, ?_⟩
        · rw [K.pl_]; omega
        · rw [hsu, sU_len]; exact hu
        · rw [hsu]; exact hgo
        · rw [V.st_]; exact set_rng hub (by omega) (by omega)
      · rw [if_neg e] at hgo
        rw [hgu] at e hgo
        have ap : A .apo 16 0 m (E q) [[.int .i64 r, .int .i64 n]] = some (true, E (sn q (r, n))) := D.apo (x := (r, n)) (by omega)
        have hsn : sn q (r, n) = q ++ [(r, n)] := D.sn_ _ _
        by_cases e2 : uv.getD r.toNat 0 + 1 < n
        · by_cases hq : m = 0
          · have hq0 : q = [] := List.length_eq_zero_iff.1 (by omega)
            rw [if_pos ⟨e2, .inl hq0⟩] at hgo
            refine wpV_ofH (by ((try (conv => lhs; cbv)); (repeat ((first | (rewrite [g]) | (rewrite [ap]) | (rewrite [K.ofN]) | (rewrite [K.add]; rotate_left; focus ((try simp only [K.df, D.df, V.df, true_and, and_true]) <;> omega)) | (rewrite [K.at_]; rotate_left; focus ((try simp only [K.df, D.df, V.df, true_and, and_true]) <;> omega)) | (rewrite [D.ln]) | (rewrite [V.getc]; rotate_left; focus ((try simp only [K.df, D.df, V.df, true_and, and_true]) <;> omega)) | (rewrite [K.ltT]; rotate_left; focus ((try simp only [K.df, D.df, V.df, true_and, and_true]) <;> omega)) | (rewrite [K.gtT]; rotate_left; focus ((try simp only [K.df, D.df, V.df, true_and, and_true]) <;> omega)) | (rewrite [K.eqT]; rotate_left; focus ((try simp only [K.df, D.df, V.df, true_and, and_true]) <;> omega)) | (rewrite [K.eqF]; rotate_left; focus ((try simp only [K.df, D.df, V.df, true_and, and_true]) <;> omega))); (try (conv => lhs; cbv)))); (exact rfl))) ?_
            refine headQ_ofH (by ((try (conv => lhs; cbv)); (exact rfl))) ?_
            refine ⟨him, _, _, _, _, rfl, ?_, hu, ?_, ?_, ?_, hub⟩
            · rw [K.pl_]; omega
            · rw [D.ll_]
            · rw [D.ll_, hsn, List.length_append]; simp; omega
            · rw [hsn]; exact hgo
          · have hlast : q.getLast? = some (ix q (mi (nt m) 1)) := by
              rw [D.ix_, K.mi_, K.nt_, List.getLast?_eq_getElem?, List.getD_eq_getElem?_getD, show ((m : Int) - 1).toNat = q.length - 1 by omega, List.getElem?_eq_getElem (by omega)]; rfl
            have g2 := D.getN (l := q) (J := mi (nt m) 1) (by rw [K.mi_, K.nt_]; omega)
            rw [hlast] at hgo
            have hne : q ≠ [] := fun h => hq (by rw [hm, h]; rfl)
            generalize ix q (mi (nt m) 1) = y at *
            obtain ⟨y1, y2⟩ := y
            have eq := eqvT hA y1 y2 r n
            (conv at eq => lhs; arg 2; cbv)
            dsimp only at g2
            by_cases ey : (y1, y2) = (r, n)
            · rw [if_neg (by rintro ⟨_, h | h⟩; exact hne h; exact h (by rw [ey]))] at hgo
              rw [decide_eq_true ey] at eq
              refine wpV_ofH (by ((try (conv => lhs; cbv)); (repeat ((first | (rewrite [g]) | (rewrite [g2]) | (rewrite [eq]) | (rewrite [K.ofN]) | (rewrite [K.add]; rotate_left; focus ((try simp only [K.df, D.df, V.df, true_and, and_true]) <;> omega)) | (rewrite [K.sub]; rotate_left; focus ((try simp only [K.df, D.df, V.df, true_and, and_true]) <;> omega)) | (rewrite [K.at_]; rotate_left; focus ((try simp only [K.df, D.df, V.df, true_and, and_true]) <;> omega)) | (rewrite [V.getc]; rotate_left; focus ((try simp only [K.df, D.df, V.df, true_and, and_true]) <;> omega)) | (rewrite [K.ltT]; rotate_left; focus ((try simp only [K.df, D.df, V.df, true_and, and_true]) <;> omega)) | (rewrite [K.gtT]; rotate_left; focus ((try simp only [K.df, D.df, V.df, true_and, and_true]) <;> omega)) | (rewrite [K.eqF]; rotate_left; focus ((try simp only [K.df, D.df, V.df, true_and, and_true]) <;> omega))); (try (conv => lhs; cbv)))); (exact rfl))) ?_
              refine headQ_ofH (by ((try (conv => lhs; cbv)); (exact rfl))) ?_
              refine ⟨him, _, _, _, _, rfl, ?_, hu, hm, by omega, hgo, hub⟩
              rw [K.pl_]; omega
            · rw [if_pos ⟨e2, .inr (by intro h; injection h with h; exact ey h)⟩] at hgo
              rw [decide_eq_false ey] at eq
              refine wpV_ofH (by ((try (conv => lhs; cbv)); (repeat ((first | (rewrite [g]) | (rewrite [g2]) | (rewrite [eq]) | (rewrite [ap]) | (rewrite [K.ofN]) | (rewrite [K.add]; rotate_left; focus ((try simp only [K.df, D.df, V.df, true_and, and_true]) <;> omega)) | (rewrite [K.sub]; rotate_left; focus ((try simp only [K.df, D.df, V.df, true_and, and_true]) <;> omega)) | (rewrite [K.at_]; rotate_left; focus ((try simp only [K.df, D.df, V.df, true_and, and_true]) <;> omega)) | (rewrite [D.ln]) | (rewrite [V.getc]; rotate_left; focus ((try simp only [K.df, D.df, V.df, true_and, and_true]) <;> omega)) | (rewrite [K.ltT]; rotate_left; focus ((try simp only [K.df, D.df, V.df, true_and, and_true]) <;> omega)) | (rewrite [K.gtT]; rotate_left; focus ((try simp only [K.df, D.df, V.df, true_and, and_true]) <;> omega)) | (rewrite [K.eqF]; rotate_left; focus ((try simp only [K.df, D.df, V.df, true_and, and_true]) <;> omega))); (try (conv => lhs; cbv)))); (exact rfl))) ?_
              refine headQ_ofH (by ((try (conv => lhs; cbv)); (exact rfl))) ?_
              refine ⟨him, _, _, _, _, rfl, ?_, hu, ?_, ?_, ?_, hub⟩
              · rw [K.pl_]; omega
              · rw [D.ll_]
              · rw [D.ll_, hsn, List.length_append]; simp; omega
              · rw [hsn]; exact hgo
        · rw [if_neg fun h => e2 h.1] at hgo
          refine wpV_ofH (by ((try (conv => lhs; cbv)); (repeat ((first | (rewrite [g]) | (rewrite [K.add]; rotate_left; focus ((try simp only [K.df, D.df, V.df, true_and, and_true]) <;> omega)) | (rewrite [K.at_]; rotate_left; focus ((try simp only [K.df, D.df, V.df, true_and, and_true]) <;> omega)) | (rewrite [V.getc]; rotate_left; focus ((try simp only [K.df, D.df, V.df, true_and, and_true]) <;> omega)) | (rewrite [K.ltT]; rotate_left; focus ((try simp only [K.df, D.df, V.df, true_and, and_true]) <;> omega)) | (rewrite [K.gtF]; rotate_left; focus ((try simp only [K.df, D.df, V.df, true_and, and_true]) <;> omega)) | (rewrite [K.eqF]; rotate_left; focus ((try simp only [K.df, D.df, V.df, true_and, and_true]) <;> omega))); (try (conv => lhs; cbv)))); (exact rfl))) ?_
          refine headQ_ofH (by ((try (conv => lhs; cbv)); (exact rfl))) ?_
          refine ⟨him, _, _, _, _, rfl, ?_, hu, hm, by omega, hgo, hub⟩
          rw [K.pl_]; omega
    · obtain rfl : i = c := by omega
      rw [List.drop_of_length_le (by omega), List.foldl_nil] at hgo
      rw [← hgo]
      dsimp only
      rw [← hm]
      refine wpV_ofH (by ((try (conv => lhs; cbv)); (repeat ((first | (rewrite [K.ltF]; rotate_left; focus ((try simp only [K.df, D.df, V.df, true_and, and_true]) <;> omega))); (try (conv => lhs; cbv)))); (exact rfl))) ?_
      show wpV _ _ _ _ _ _
      refine wpV_ofH (by ((try (conv => lhs; cbv)); (exact rfl))) ?_
      (show finV _ _ _ = some _; ((try (conv => lhs; cbv)); (try (with_reducible rfl))); (try rfl))
end Go.Proofs.Ytomchclmnmhjaaa
