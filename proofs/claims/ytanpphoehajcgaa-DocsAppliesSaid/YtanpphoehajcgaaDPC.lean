/- The place of a write among others, by halves. -/
import Derived.Test.YtanpphoehajcgaaDPB
set_option linter.unusedSimpArgs false
set_option linter.unusedVariables false
set_option maxRecDepth 100000
set_option maxHeartbeats 1000000
set_option cbv.maxSteps 10000000
namespace Go.Proofs.Ytanpphoehajcgaa
open Go GoV

/-- The place that is found, by halves. -/
def bsGo (l : List Wr) (w : Wr) : Nat → Nat → Nat → Nat
  | 0, i, _ => i
  | k + 1, i, j => if i < j then (if ordW (l.getD ((i + j) / 2) zeroWr) w < 0 then bsGo l w k ((i + j) / 2 + 1) j else bsGo l w k i ((i + j) / 2)) else i
theorem bsGo_spec {l : List Wr} {w : Wr} (hp : l.Pairwise LW) : ∀ (k i j : Nat), i ≤ j → j ≤ l.length → j - i ≤ k → (∀ x, x < i → LW (l.getD x zeroWr) w) → (∀ x, j ≤ x → x < l.length → ¬ LW (l.getD x zeroWr) w) →
    bsGo l w k i j ≤ l.length ∧ (∀ x, x < bsGo l w k i j → LW (l.getD x zeroWr) w) ∧ ∀ x, bsGo l w k i j ≤ x → x < l.length → ¬ LW (l.getD x zeroWr) w
  | 0, i, j, h1, h2, h3, h4, h5 => by
    obtain rfl : i = j := by omega
    exact ⟨h2, h4, h5⟩
  | k + 1, i, j, h1, h2, h3, h4, h5 => by
    have gt : ∀ {a b : Nat}, a < b → b < l.length → LW (l.getD a zeroWr) (l.getD b zeroWr) := fun {a b} h hb => by
      have := List.pairwise_iff_getElem.1 hp a b (by omega) hb h
      rw [List.getD_eq_getElem?_getD, List.getD_eq_getElem?_getD, List.getElem?_eq_getElem (by omega), List.getElem?_eq_getElem hb]; exact this
    unfold bsGo
    by_cases h : i < j
    · rw [if_pos h]
      by_cases hw : ordW (l.getD ((i + j) / 2) zeroWr) w < 0
      · rw [if_pos hw]
        have hw' : LW (l.getD ((i + j) / 2) zeroWr) w := hw
        refine bsGo_spec hp k _ j (by omega) h2 (by omega) (fun x hx => ?_) h5
        by_cases hxe : x = (i + j) / 2
        · rw [hxe]; exact hw'
        · exact LW_trans (gt (by omega) (by omega)) hw'
      · rw [if_neg hw]
        refine bsGo_spec hp k i _ (by omega) (by omega) (by omega) h4 (fun x hx hxl => ?_)
        by_cases hxe : x = (i + j) / 2
        · rw [hxe]; exact hw
        · intro hc
          exact hw (LW_trans (gt (by omega) hxl) hc)
    · rw [if_neg h]
      obtain rfl : i = j := by omega
      exact ⟨h2, h4, h5⟩
theorem tw_self {p : Wr → Bool} : ∀ {l : List Wr}, (∀ x, x ∈ l → p x = true) → l.takeWhile p = l
  | [], _ => rfl
  | x :: r, h => by rw [List.takeWhile_cons, if_pos (h x (by simp)), tw_self fun y hy => h y (by simp [hy])]
def bsW (l : List Wr) (w : Wr) : Nat := bsGo l w l.length 0 l.length
theorem bsW_put {l : List Wr} {w : Wr} (hp : l.Pairwise LW) : putW l w = l.take (bsW l w) ++ w :: l.drop (bsW l w) ∧ bsW l w ≤ l.length := by
  obtain ⟨h1, h2, h3⟩ := bsGo_spec (w := w) hp l.length 0 l.length (by omega) (Nat.le_refl _) (by omega) (fun x hx => by omega) (fun x hx hxl => by omega)
  change bsW l w ≤ l.length at h1
  change ∀ x, x < bsW l w → _ at h2
  change ∀ x, bsW l w ≤ x → _ at h3
  refine ⟨?_, h1⟩
  obtain ⟨q1, q2⟩ := putW_at l w
  have a0 := atW_tw l w l.length (Nat.le_refl _)
  rw [Nat.sub_self, Nat.zero_add, List.drop_zero] at a0
  have e : atW l w l.length = bsW l w := by
    rw [a0]
    have t1 : (l.take (bsW l w)).takeWhile (fun x => decide (LW x w)) = l.take (bsW l w) := by
      refine tw_self fun x hx => ?_
      obtain ⟨i, hi, rfl⟩ := List.mem_iff_getElem.1 hx
      rw [List.length_take] at hi
      have := h2 i (by omega)
      rw [List.getD_eq_getElem?_getD, List.getElem?_eq_getElem (by omega)] at this
      simp only [Option.getD_some] at this
      rw [List.getElem_take]; exact decide_eq_true this
    have t2 : (l.drop (bsW l w)).takeWhile (fun x => decide (LW x w)) = [] := by
      cases hd : l.drop (bsW l w) with
      | nil => rfl
      | cons x r =>
        have hlt : bsW l w < l.length := by
          rcases Nat.lt_or_ge (bsW l w) l.length with h | h
          · exact h
          · rw [List.drop_of_length_le h] at hd; cases hd
        have := h3 (bsW l w) (Nat.le_refl _) hlt
        rw [List.getD_eq_getElem?_getD, List.getElem?_eq_getElem hlt] at this
        rw [List.drop_eq_getElem_cons hlt] at hd
        simp only [List.cons.injEq] at hd
        rw [← hd.1, List.takeWhile_cons, if_neg]
        simpa using this
    conv => lhs; rw [← List.take_append_drop (bsW l w) l]
    rw [List.takeWhile_append, t1, if_pos rfl, t2, List.append_nil, List.length_take]
    omega
  rw [q1, e]
theorem n52 (l : List Wr) (w : Wr) (g : Bool) (hl : l.length ≤ 1000) (m : List Wr) (hm : ∀ i, i < l.length → m.getD i zeroWr = l.getD i zeroWr) (hml : l.length ≤ m.length) (b : Bool) (hb : b = (decide (bsW l w < l.length) && decide (ordW (l.getD (bsW l w) zeroWr) w = 0))) :
    Pn 3000 52 [.one (.slo 0 0 l.length), wF w, .one (.iv (.fn 54))] [.arr false g 6 (eWs m)] (.tup [(false, [.iv (.int .i64 (bsW l w : Nat))]), (false, [.iv (.bool b)])]) [.arr false g 6 (eWs m)] := by
  refine playN 2999 rfl rfl fun A call hA hcall => ?_
  obtain ⟨pl, mi, ml, nt, tn, ad, sb, K⟩ := kit hA
  obtain ⟨E, ix, sn, ll, cc, sg, D⟩ := lkit hA K zeroWr (fun w => [.int .i64 w.d.1, .int .i64 w.d.2, .int .i64 w.t, .str w.doc, .int .i64 w.f, .str w.txt]) 64
  obtain ⟨W, gx, st', V⟩ := rkit hA
  have hE : ∀ l, eWs l = E l := fun l => by rw [D.E_]; rfl
  have k54 : ∀ x, call 54 [wF x, wF w] [] = some (i64 (ordW x w), []) := fun x => by rw [hcall]; exact n54 x w 2999 (by omega)
  obtain ⟨N, hN⟩ : ∃ N, N = l.length := ⟨_, rfl⟩
  obtain ⟨M, hM⟩ : ∃ M : Int, M = nt N := ⟨_, rfl⟩
  have hMl : M = N := by rw [hM, K.nt_]
  have ofN : A .ofN N = M := by rw [K.ofN, hM]
  have hix : ∀ J : Int, 0 ≤ J → J < N → ix m J = l.getD J.toNat zeroWr := fun J h1 h2 => by rw [D.ix_]; exact hm _ (by omega)
  rw [hE]
  generalize hR : bsW l w = R at *
  have hR0 : bsGo l w N 0 N = R := by rw [hN]; exact hR
  rw [← hN] at hb ⊢
  obtain ⟨⟨r0, n0⟩, tm0, doc0, fi0, txt0⟩ := w
  apply wpV_seq; refine wpV_ofH (by ((try (conv => lhs; cbv)); (exact rfl))) ?_
  apply wpV_seq; refine wpV_ofH (by ((try (conv => lhs; cbv)); (repeat ((first | (rewrite [ofN])); (try (conv => lhs; cbv)))); (exact rfl))) ?_
  apply wpV_seq; refine wpV_ofH (by ((try (conv => lhs; cbv)); (exact rfl))) ?_
  apply wpV_seq
  apply wpV_block
  refine wpV_loop N (fun t st => ∃ (I J : Int) (i j : Nat), st = ⟨1, (.one (.slo 0 0 N) :: u :: .one (.iv (.fn 54)) :: u :: .one (.ptr 1 0) :: u :: u :: u :: i64 M :: i64 I :: i64 J :: u :: u :: u :: u :: u :: u :: u :: u :: u :: u :: u :: u :: u :: u :: u :: u :: u :: u :: u :: u :: u :: u :: u :: u :: u :: u :: u :: u :: u :: u :: u :: u :: u :: u :: u :: u :: u :: u :: []), [.arr false g 6 (E m), .var false [.iv (.int .i64 r0), .iv (.int .i64 n0), .iv (.int .i64 tm0), .iv (.str doc0), .iv (.int .i64 fi0), .iv (.str txt0)]]⟩ ∧ I = i ∧ J = j ∧ i ≤ j ∧ j ≤ N ∧ j - i ≤ N - t ∧ bsGo l ⟨(r0, n0), tm0, doc0, fi0, txt0⟩ (N - t) i j = R) (by omega) (by ((try (conv => lhs; cbv)); (try (with_reducible rfl)))) ⟨0, M, 0, N, rfl, rfl, by omega, by omega, by omega, by omega, hR0⟩ ?_
  rintro t ht st ⟨I, J, i, j, rfl, hI, hJ, hij, hjN, hd, hgo⟩
  by_cases him : i < j
  · rw [show N - t = (N - t - 1) + 1 by omega, bsGo, if_pos him] at hgo
    obtain ⟨H, hH⟩ : ∃ H : Int, H = (((i + j) / 2 : Nat) : Int) := ⟨_, rfl⟩
    have s1 : A .ar .shr .u64 (pl I J) 1 = H := by
      rw [hA, K.pl_]
      show Int.fdiv (I + J) (2 ^ (min (1 : Int).toNat 64)) = H
      rw [show ((2 : Int) ^ (min (1 : Int).toNat 64)) = 2 from rfl, Int.fdiv_eq_ediv_of_nonneg _ (by omega)]
      omega
    have gN := D.getN (l := m) (J := H) (by omega)
    have hx := hix H (by omega) (by omega)
    rw [hH, Int.toNat_natCast, ← hH] at hx
    rw [← hx] at hgo
    have kk := k54 (ix m H)
    generalize ix m H = x at *
    generalize hC : ordW x ⟨(r0, n0), tm0, doc0, fi0, txt0⟩ = C at *
    obtain ⟨⟨r, n⟩, tm, doc, fi, txt⟩ := x
    dsimp only at gN kk
    have hpl : pl I J = I + J := K.pl_ _ _
    by_cases hC0 : C < 0
    · rw [if_pos hC0] at hgo
      refine wpV_ofH (by ((try (conv => lhs; cbv)); (repeat ((first | (rewrite [s1]) | (rewrite [gN]) | (rewrite [kk]) | (rewrite [K.ckI]; rotate_left; focus ((try simp only [K.df, D.df, V.df, true_and, and_true]) <;> omega)) | (rewrite [K.ckU]; rotate_left; focus ((try simp only [K.df, D.df, V.df, true_and, and_true]) <;> omega)) | (rewrite [K.add]; rotate_left; focus ((try simp only [K.df, D.df, V.df, true_and, and_true]) <;> omega)) | (rewrite [K.nn]; rotate_left; focus ((try simp only [K.df, D.df, V.df, true_and, and_true]) <;> omega)) | (rewrite [K.at_]; rotate_left; focus ((try simp only [K.df, D.df, V.df, true_and, and_true]) <;> omega)) | (rewrite [K.ltT]; rotate_left; focus ((try simp only [K.df, D.df, V.df, true_and, and_true]) <;> omega))); (try (conv => lhs; cbv)))); (exact rfl))) ?_
      refine headQ_ofH (by ((try (conv => lhs; cbv)); (exact rfl))) ?_
      refine ⟨by omega, _, _, (i + j) / 2 + 1, j, rfl, ?_, hJ, ?_, hjN, ?_, ?_⟩
      · rw [K.pl_, hH]; omega
      · omega
      · omega
      · rw [show N - (t + 1) = N - t - 1 by omega]; exact hgo
    · rw [if_neg hC0] at hgo
      refine wpV_ofH (by ((try (conv => lhs; cbv)); (repeat ((first | (rewrite [s1]) | (rewrite [gN]) | (rewrite [kk]) | (rewrite [K.ckI]; rotate_left; focus ((try simp only [K.df, D.df, V.df, true_and, and_true]) <;> omega)) | (rewrite [K.ckU]; rotate_left; focus ((try simp only [K.df, D.df, V.df, true_and, and_true]) <;> omega)) | (rewrite [K.add]; rotate_left; focus ((try simp only [K.df, D.df, V.df, true_and, and_true]) <;> omega)) | (rewrite [K.nn]; rotate_left; focus ((try simp only [K.df, D.df, V.df, true_and, and_true]) <;> omega)) | (rewrite [K.at_]; rotate_left; focus ((try simp only [K.df, D.df, V.df, true_and, and_true]) <;> omega)) | (rewrite [K.ltT]; rotate_left; focus ((try simp only [K.df, D.df, V.df, true_and, and_true]) <;> omega)) | (rewrite [K.ltF]; rotate_left; focus ((try simp only [K.df, D.df, V.df, true_and, and_true]) <;> omega))); (try (conv => lhs; cbv)))); (exact rfl))) ?_
      refine headQ_ofH (by ((try (conv => lhs; cbv)); (exact rfl))) ?_
      refine ⟨by omega, _, _, i, (i + j) / 2, rfl, hI, hH, ?_, ?_, ?_, ?_⟩
      · omega
      · omega
      · omega
      · rw [show N - (t + 1) = N - t - 1 by omega]; exact hgo
  · have hR2 : i = R := by
      rw [← hgo]
      cases N - t with
      | zero => rfl
      | succ k => rw [bsGo, if_neg him]
    subst hR2
    refine wpV_ofH (by ((try (conv => lhs; cbv)); (repeat ((first | (rewrite [K.ltF]; rotate_left; focus ((try simp only [K.df, D.df, V.df, true_and, and_true]) <;> omega))); (try (conv => lhs; cbv)))); (exact rfl))) ?_
    show wpV _ _ _ _ _ _
    rw [← hI]
    by_cases hiN : i < N
    · have gN := D.getN (l := m) (J := I) (by omega)
      have hx := hix I (by omega) (by omega)
      rw [hI, Int.toNat_natCast, ← hI] at hx
      rw [← hx, decide_eq_true hiN, Bool.true_and] at hb
      have kk := k54 (ix m I)
      generalize ix m I = x at *
      generalize hC : ordW x ⟨(r0, n0), tm0, doc0, fi0, txt0⟩ = C at *
      obtain ⟨⟨r, n⟩, tm, doc, fi, txt⟩ := x
      dsimp only at gN kk
      by_cases hC0 : C = 0
      · rw [decide_eq_true hC0] at hb
        subst hb
        refine wpV_ofH (by ((try (conv => lhs; cbv)); (repeat ((first | (rewrite [gN]) | (rewrite [kk]) | (rewrite [K.at_]; rotate_left; focus ((try simp only [K.df, D.df, V.df, true_and, and_true]) <;> omega)) | (rewrite [K.ltT]; rotate_left; focus ((try simp only [K.df, D.df, V.df, true_and, and_true]) <;> omega)) | (rewrite [K.eqT]; rotate_left; focus ((try simp only [K.df, D.df, V.df, true_and, and_true]) <;> omega))); (try (conv => lhs; cbv)))); (exact rfl))) ?_
        (show finV _ _ _ = some _; ((try (conv => lhs; cbv)); (try (with_reducible rfl))); (try rfl))
      · rw [decide_eq_false hC0] at hb
        subst hb
        refine wpV_ofH (by ((try (conv => lhs; cbv)); (repeat ((first | (rewrite [gN]) | (rewrite [kk]) | (rewrite [K.at_]; rotate_left; focus ((try simp only [K.df, D.df, V.df, true_and, and_true]) <;> omega)) | (rewrite [K.ltT]; rotate_left; focus ((try simp only [K.df, D.df, V.df, true_and, and_true]) <;> omega)) | (rewrite [K.eqF]; rotate_left; focus ((try simp only [K.df, D.df, V.df, true_and, and_true]) <;> omega))); (try (conv => lhs; cbv)))); (exact rfl))) ?_
        (show finV _ _ _ = some _; ((try (conv => lhs; cbv)); (try (with_reducible rfl))); (try rfl))
    · rw [decide_eq_false hiN, Bool.false_and] at hb
      subst hb
      refine wpV_ofH (by ((try (conv => lhs; cbv)); (repeat ((first | (rewrite [K.ltF]; rotate_left; focus ((try simp only [K.df, D.df, V.df, true_and, and_true]) <;> omega))); (try (conv => lhs; cbv)))); (exact rfl))) ?_
      (show finV _ _ _ = some _; ((try (conv => lhs; cbv)); (try (with_reducible rfl))); (try rfl))
end Go.Proofs.Ytanpphoehajcgaa
