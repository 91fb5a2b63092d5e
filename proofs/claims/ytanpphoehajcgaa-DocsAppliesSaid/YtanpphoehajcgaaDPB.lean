/- Writes that an event takes away; the place of a write: gone through. -/
import Derived.Test.YtanpphoehajcgaaDPA
set_option linter.unusedSimpArgs false
set_option linter.unusedVariables false
set_option maxRecDepth 100000
set_option maxHeartbeats 1000000
set_option cbv.maxSteps 10000000
namespace Go.Proofs.Ytanpphoehajcgaa
open Go GoV

abbrev evL (b : Bool) (z : Nat) (e : Ev) : List LV := [.iv (.int .i64 e.d.1), .iv (.int .i64 e.d.2), .iv (.int .i64 e.t), .iv (.int .i64 e.k), .iv (.str e.doc), .iv (.int .i64 e.f), .iv (.str e.txt), .iv (.sl b z (eDs e.gone))]
theorem n50 (e : Ev) (w : Wr) (b : Bool) (z : Nat) (hz : z = 2 ∨ z = 0 ∧ e.gone = []) (hl : e.gone.length ≤ 1000) : Pn 1104 50 [wF w, .one (.ptr 0 0)] [.var false (evL b z e)] (bl (decide (w.d ∈ e.gone))) [.var false (evL b z e)] := by
  refine playN 1103 rfl rfl fun A call hA hcall => ?_
  obtain ⟨pl, mi, ml, nt, tn, ad, sb, K⟩ := kit hA
  obtain ⟨E, ix, sn, ll, cc, sg, D⟩ := lkit hA K ((0, 0) : Int × Int) (fun p => [.int .i64 p.1, .int .i64 p.2]) 16
  obtain ⟨W, gx, st', V⟩ := rkit hA
  have k := n51 e.gone w.d b z hz hl 1103 (by omega)
  rw [← hcall] at k
  obtain ⟨⟨r, n⟩, t, kd, doc, f, txt, gone⟩ := e
  obtain ⟨⟨r2, n2⟩, t2, doc2, f2, txt2⟩ := w
  dsimp only [evL] at k ⊢
  generalize decide ((r2, n2) ∈ gone) = R at *
  generalize eDs gone = gs at *
  refine wpV_ofH (by ((try (conv => lhs; cbv)); (repeat ((first | (rewrite [k])); (try (conv => lhs; cbv)))); (exact rfl))) ?_
  (show finV _ _ _ = some _; ((try (conv => lhs; cbv)); (try (with_reducible rfl))); (try rfl))
def goneIx (gone : List (Int × Int)) : List Wr → Nat → Int
  | [], _ => -1
  | w :: r, i => if decide (w.d ∈ gone) = true then i else goneIx gone r (i + 1)
theorem n87 (e : Ev) (b : Bool) (z : Nat) (hz : z = 2 ∨ z = 0 ∧ e.gone = []) (hg : e.gone.length ≤ 1000) (l : List Wr) (hl : l.length ≤ 1000) (g : Bool) :
    Pn 2200 87 [.one (.slo 0 0 l.length), .one (.fnc 50 [(1, 0)])] [.arr false g 6 (eWs l), .var false (evL b z e)] (i64 (goneIx e.gone l 0)) [.arr false g 6 (eWs l), .var false (evL b z e)] := by
  refine playN 2199 rfl rfl fun A call hA hcall => ?_
  obtain ⟨pl, mi, ml, nt, tn, ad, sb, K⟩ := kit hA
  obtain ⟨E, ix, sn, ll, cc, sg, D⟩ := lkit hA K zeroWr (fun w => [.int .i64 w.d.1, .int .i64 w.d.2, .int .i64 w.t, .str w.doc, .int .i64 w.f, .str w.txt]) 64
  obtain ⟨W, gx, st', V⟩ := rkit hA
  have hE : eWs l = E l := by rw [D.E_]; rfl
  have k50 : ∀ w, call 50 [wF w, .one (.ptr 0 0)] [.var false (evL b z e)] = some (bl (decide (w.d ∈ e.gone)), [.var false (evL b z e)]) := fun w => by rw [hcall]; exact n50 e w b z hz hg 2199 (by omega)
  obtain ⟨⟨er, en⟩, et, ek, edoc, efi, etxt, GG⟩ := e
  dsimp only [evL] at *
  generalize eDs GG = gs at *
  obtain ⟨N, hN⟩ : ∃ N, N = l.length := ⟨_, rfl⟩
  obtain ⟨M, hM⟩ : ∃ M : Int, M = nt N := ⟨_, rfl⟩
  have hMl : M = N := by rw [hM, K.nt_]
  have ofN : A .ofN N = M := by rw [K.ofN, hM]
  rw [hE, ← hN]
  generalize hR : goneIx GG l 0 = R
  apply wpV_seq; refine wpV_ofH (by ((try (conv => lhs; cbv)); (exact rfl))) ?_
  apply wpV_seq; apply wpV_seq; refine wpV_ofH (by ((try (conv => lhs; cbv)); (repeat ((first | (rewrite [ofN])); (try (conv => lhs; cbv)))); (exact rfl))) ?_
  apply wpV_block
  refine wpV_loop N (fun i st => ∃ J : Int, st = ⟨2, [.one (.slo 0 0 N), .one (.fnc 50 [(1, 0)]), u, u, u, u, u, i64 M, i64 J, u, u, u, u, u, u, u, u, u, u], [.arr false g 6 (E l), .var false [.iv (.int .i64 er), .iv (.int .i64 en), .iv (.int .i64 et), .iv (.int .i64 ek), .iv (.str edoc), .iv (.int .i64 efi), .iv (.str etxt), .iv (.sl b z gs)]]⟩ ∧ J = i ∧ goneIx GG (l.drop i) i = R) (by omega) (by ((try (conv => lhs; cbv)); (try (with_reducible rfl)))) ⟨0, rfl, rfl, hR⟩ ?_
  rintro i hi st ⟨J, rfl, hJ, hgo⟩
  by_cases him : i < N
  · have hd : l.drop i = ix l J :: l.drop (i + 1) := by
      rw [D.ix_, hJ, Int.toNat_natCast, List.drop_eq_getElem_cons (by omega), List.getD_eq_getElem?_getD, List.getElem?_eq_getElem (by omega)]; rfl
    rw [hd, goneIx] at hgo
    have gN := D.getN (l := l) (J := J) (by omega)
    generalize ix l J = d at *
    have k := k50 d
    generalize hb : decide (d.d ∈ GG) = B at *
    obtain ⟨⟨r, n⟩, tm, doc, fi, txt⟩ := d
    dsimp only at gN k
    cases B with
    | true =>
      rw [if_pos rfl] at hgo
      rw [← hgo, ← hJ]
      refine wpV_ofH (by ((try (conv => lhs; cbv)); (repeat ((first | (rewrite [gN]) | (rewrite [k]) | (rewrite [K.at_]; rotate_left; focus ((try simp only [K.df, D.df, V.df, true_and, and_true]) <;> omega)) | (rewrite [K.ltT]; rotate_left; focus ((try simp only [K.df, D.df, V.df, true_and, and_true]) <;> omega))); (try (conv => lhs; cbv)))); (exact rfl))) ?_
      show finQ _ _ _ _ _
      (show finV _ _ _ = some _; ((try (conv => lhs; cbv)); (try (with_reducible rfl))); (try rfl))
    | false =>
      rw [if_neg (by decide)] at hgo
      refine wpV_ofH (by ((try (conv => lhs; cbv)); (repeat ((first | (rewrite [gN]) | (rewrite [k]) | (rewrite [K.add]; rotate_left; focus ((try simp only [K.df, D.df, V.df, true_and, and_true]) <;> omega)) | (rewrite [K.at_]; rotate_left; focus ((try simp only [K.df, D.df, V.df, true_and, and_true]) <;> omega)) | (rewrite [K.ltT]; rotate_left; focus ((try simp only [K.df, D.df, V.df, true_and, and_true]) <;> omega))); (try (conv => lhs; cbv)))); (exact rfl))) ?_
      refine headQ_ofH (by ((try (conv => lhs; cbv)); (exact rfl))) ?_
      refine ⟨him, _, rfl, ?_, hgo⟩
      rw [K.pl_]; omega
  · obtain rfl : i = N := by omega
    rw [List.drop_of_length_le (by omega), goneIx] at hgo
    rw [← hgo]
    refine wpV_ofH (by ((try (conv => lhs; cbv)); (repeat ((first | (rewrite [K.ltF]; rotate_left; focus ((try simp only [K.df, D.df, V.df, true_and, and_true]) <;> omega))); (try (conv => lhs; cbv)))); (exact rfl))) ?_
    show wpV _ _ _ _ _ _
    refine wpV_ofH (by ((try (conv => lhs; cbv)); (exact rfl))) ?_
    (show finV _ _ _ = some _; ((try (conv => lhs; cbv)); (try (with_reducible rfl))); (try rfl))
theorem goneIx_spec (gone : List (Int × Int)) : ∀ (l : List Wr) (i : Nat), (goneIx gone l i = -1 ∧ ∀ w, w ∈ l → decide (w.d ∈ gone) = false) ∨ ∃ k, k < l.length ∧ goneIx gone l i = (i + k : Nat) ∧ (∀ w, w ∈ l.take k → decide (w.d ∈ gone) = false) ∧ decide ((l.getD k zeroWr).d ∈ gone) = true
  | [], i => .inl ⟨rfl, by simp⟩
  | d :: r, i => by
    unfold goneIx
    cases hd : decide (d.d ∈ gone) with
    | true =>
      rw [if_pos rfl]
      exact .inr ⟨0, by simp, by simp, by simp, by simpa using hd⟩
    | false =>
      rw [if_neg (by decide)]
      rcases goneIx_spec gone r (i + 1) with ⟨h1, h2⟩ | ⟨k, h1, h2, h3, h4⟩
      · refine .inl ⟨h1, fun x hx => ?_⟩
        rcases List.mem_cons.1 hx with rfl | hx
        · exact hd
        · exact h2 x hx
      · refine .inr ⟨k + 1, by simpa using h1, by rw [h2]; congr 1; omega, fun x hx => ?_, by simpa using h4⟩
        rw [List.take_succ_cons] at hx
        rcases List.mem_cons.1 hx with rfl | hx
        · exact hd
        · exact h3 x hx
def keptW (gone : List (Int × Int)) (l : List Wr) : List Wr := l.filter fun w => !decide (w.d ∈ gone)
theorem n49 (e : Ev) (b : Bool) (z : Nat) (hz : z = 2 ∨ z = 0 ∧ e.gone = []) (hg : e.gone.length ≤ 1000) (l : List Wr) (hl : l.length ≤ 1000) (g : Bool) :
    Pn 3400 49 [.one (.slo 0 0 l.length), .one (.fnc 50 [(1, 0)])] [.arr false g 6 (eWs l), .var false (evL b z e)] (.one (.slo 0 0 (keptW e.gone l).length)) [.arr false g 6 (eWs (keptW e.gone l ++ List.replicate (l.length - (keptW e.gone l).length) zeroWr)), .var false (evL b z e)] := by
  refine playN 3399 rfl rfl fun A call hA hcall => ?_
  obtain ⟨pl, mi, ml, nt, tn, ad, sb, K⟩ := kit hA
  obtain ⟨E, ix, sn, ll, cc, sg, D⟩ := lkit hA K zeroWr (fun w => [.int .i64 w.d.1, .int .i64 w.d.2, .int .i64 w.t, .str w.doc, .int .i64 w.f, .str w.txt]) 64
  obtain ⟨W, gx, st', V⟩ := rkit hA
  have hE : ∀ l, eWs l = E l := fun l => by rw [D.E_]; rfl
  have k50 : ∀ w, call 50 [wF w, .one (.ptr 0 0)] [.var false (evL b z e)] = some (bl (decide (w.d ∈ e.gone)), [.var false (evL b z e)]) := fun w => by rw [hcall]; exact n50 e w b z hz hg 3399 (by omega)
  have k87 := n87 e b z hz hg l hl false 3399 (by omega)
  rw [← hcall, hE] at k87
  obtain ⟨⟨er, en⟩, et, ek, edoc, efi, etxt, GG⟩ := e
  dsimp only [evL] at *
  generalize eDs GG = gs at *
  obtain ⟨SD, hSD⟩ : ∃ SD : List Wr → Nat → Wr → List Wr, ∀ m k x, SD m k x = m.set k x := ⟨_, fun _ _ _ => rfl⟩
  obtain ⟨N, hN⟩ : ∃ N, N = l.length := ⟨_, rfl⟩
  obtain ⟨M, hM⟩ : ∃ M : Int, M = nt N := ⟨_, rfl⟩
  have hMl : M = N := by rw [hM, K.nt_]
  have ofN : A .ofN N = M := by rw [K.ofN, hM]
  rw [← hN] at k87
  rw [hE, hE, ← hN]
  rcases goneIx_spec GG l 0 with ⟨h1, h2⟩ | ⟨k, h1, h2, h3, h4⟩
  · have hk : keptW GG l = l := List.filter_eq_self.2 fun x hx => by rw [h2 x hx]; rfl
    rw [hk, ← hN, Nat.sub_self, List.replicate_zero, List.append_nil]
    rw [h1] at k87
    refine wpV_ofH (by ((try (conv => lhs; cbv)); (repeat ((first | (rewrite [k87]) | (rewrite [K.eqT]; rotate_left; focus ((try simp only [K.df, D.df, V.df, true_and, and_true]) <;> omega))); (try (conv => lhs; cbv)))); (exact rfl))) ?_
    show finQ _ _ _ _ _
    (show finV _ _ _ = some _; ((try (conv => lhs; cbv)); (try (with_reducible rfl))); (try rfl))
  · obtain ⟨I0, hI0⟩ : ∃ I : Int, I = ((0 + k : Nat) : Int) := ⟨_, rfl⟩
    rw [h2, ← hI0] at k87
    have hk0 : keptW GG (l.take k) = l.take k := List.filter_eq_self.2 fun x hx => by rw [h3 x hx]; rfl
    have hk1 : keptW GG (l.take (k + 1)) = l.take k := by
      have : l.take (k + 1) = l.take k ++ [l.getD k zeroWr] := by
        rw [List.take_succ_eq_append_getElem h1, List.getD_eq_getElem?_getD, List.getElem?_eq_getElem h1]; rfl
      rw [this]
      unfold keptW
      rw [List.filter_append]
      show keptW GG (l.take k) ++ _ = _
      rw [hk0]
      simp only [List.filter_cons, h4, List.filter_nil]
      simp
    apply wpV_seq; refine wpV_ofH (by ((try (conv => lhs; cbv)); (exact rfl))) ?_
    apply wpV_seq; refine wpV_ofH (by ((try (conv => lhs; cbv)); (repeat ((first | (rewrite [k87])); (try (conv => lhs; cbv)))); (exact rfl))) ?_
    apply wpV_seq; apply wpV_seq; refine wpV_ofH (by ((try (conv => lhs; cbv)); (repeat ((first | (rewrite [K.eqF]; rotate_left; focus ((try simp only [K.df, D.df, V.df, true_and, and_true]) <;> omega))); (try (conv => lhs; cbv)))); (exact rfl))) ?_
    refine wpV_ofH (by ((try (conv => lhs; cbv)); (exact rfl))) ?_
    apply wpV_seq; apply wpV_seq; refine wpV_ofH (by ((try (conv => lhs; cbv)); (repeat ((first | (rewrite [K.add]; rotate_left; focus ((try simp only [K.df, D.df, V.df, true_and, and_true]) <;> omega))); (try (conv => lhs; cbv)))); (exact rfl))) ?_
    apply wpV_block
    refine wpV_loop (N - (k + 1)) (fun i st => ∃ (J I : Int) (m : List Wr), st = ⟨2, (.one (.slo 0 0 N) :: .one (.fnc 50 [(1, 0)]) :: u :: u :: u :: i64 I :: i64 J :: u :: u :: u :: u :: u :: u :: u :: u :: u :: u :: u :: u :: u :: u :: u :: u :: u :: u :: u :: u :: u :: u :: u :: u :: u :: u :: u :: u :: u :: u :: u :: u :: u :: u :: u :: []), [.arr false g 6 (E m), .var false [.iv (.int .i64 er), .iv (.int .i64 en), .iv (.int .i64 et), .iv (.int .i64 ek), .iv (.str edoc), .iv (.int .i64 efi), .iv (.str etxt), .iv (.sl b z gs)]]⟩ ∧ J = (k + 1 + i : Nat) ∧ m.length = N ∧ I = ((keptW GG (l.take (k + 1 + i))).length : Int) ∧ m.take (keptW GG (l.take (k + 1 + i))).length = keptW GG (l.take (k + 1 + i)) ∧ m.drop (k + 1 + i) = l.drop (k + 1 + i) ∧ I < J) (by omega) (by ((try (conv => lhs; cbv)); (try (with_reducible rfl)))) ⟨_, _, l, rfl, by rw [K.pl_, hI0]; omega, hN.symm, by rw [hk1, hI0, List.length_take]; omega, by rw [hk1, List.length_take, Nat.min_eq_left (by omega)], rfl, by rw [K.pl_]; omega⟩ ?_
    rintro i hi st ⟨J, I, m, rfl, hJ, hm, hI, hmt, hmd, hIJ⟩
    have hIl : (0 : Int) ≤ I := by omega
    by_cases him : i < N - (k + 1)
    · have hj : k + 1 + i < l.length := by omega
      have hx : ix m J = l.getD (k + 1 + i) zeroWr := by
        rw [D.ix_, hJ, Int.toNat_natCast, List.getD_eq_getElem?_getD, List.getD_eq_getElem?_getD]
        have := congrArg (fun q => q[0]?) hmd
        simp only [List.getElem?_drop, Nat.add_zero] at this
        rw [this]
      have htk : l.take (k + 1 + (i + 1)) = l.take (k + 1 + i) ++ [ix m J] := by
        rw [hx, ← Nat.add_assoc, List.take_succ_eq_append_getElem hj, List.getD_eq_getElem?_getD, List.getElem?_eq_getElem hj]; rfl
      have hdr : m.drop (k + 1 + (i + 1)) = l.drop (k + 1 + (i + 1)) := by
        have := congrArg (List.drop 1) hmd
        rw [List.drop_drop, List.drop_drop] at this
        exact this
      have gN := D.getN (l := m) (J := J) (by omega)
      have sD : ∀ x : Wr, A .set (E m) (tn I) 0 [.int .i64 x.d.1, .int .i64 x.d.2, .int .i64 x.t, .str x.doc, .int .i64 x.f, .str x.txt] = some (E (SD m (tn I) x)) := fun x => by
        have hin : I.toNat < m.length := by omega
        rw [hA, hSD, D.E_, D.E_, K.tn_, real_set]
        unfold rSet
        rw [List.getElem?_map, List.getElem?_eq_getElem hin]
        simp [plainI, List.map_set]
      have hk2 : keptW GG (l.take (k + 1 + (i + 1))) = keptW GG (l.take (k + 1 + i)) ++ (if decide ((ix m J).d ∈ GG) = false then [ix m J] else []) := by
        rw [htk]
        unfold keptW
        rw [List.filter_append]
        cases h : decide ((ix m J).d ∈ GG) <;> simp [h]
      generalize ix m J = d at *
      have kk := k50 d
      have sD := sD d
      generalize hb : decide (d.d ∈ GG) = B at *
      obtain ⟨⟨r, n⟩, tm, doc, fi, txt⟩ := d
      dsimp only at gN kk sD
      have hmN : (m.length : Int) = M := by omega
      cases B with
      | true =>
        rw [if_neg (by decide), List.append_nil] at hk2
        refine wpV_ofH (by ((try (conv => lhs; cbv)); (repeat ((first | (rewrite [gN]) | (rewrite [kk]) | (rewrite [K.ofN]) | (rewrite [K.add]; rotate_left; focus ((try simp only [K.df, D.df, V.df, true_and, and_true]) <;> omega)) | (rewrite [K.at_]; rotate_left; focus ((try simp only [K.df, D.df, V.df, true_and, and_true]) <;> omega)) | (rewrite [K.ltT]; rotate_left; focus ((try simp only [K.df, D.df, V.df, true_and, and_true]) <;> omega))); (try (conv => lhs; cbv)))); (exact rfl))) ?_
        refine headQ_ofH (by ((try (conv => lhs; cbv)); (exact rfl))) ?_
        refine ⟨him, _, _, m, rfl, ?_, hm, ?_, ?_, hdr, ?_⟩
        · rw [K.pl_]; omega
        · rw [hk2]; exact hI
        · rw [hk2]; exact hmt
        · rw [K.pl_]; omega
      | false =>
        rw [if_pos rfl] at hk2
        refine wpV_ofH (by ((try (conv => lhs; cbv)); (repeat ((first | (rewrite [gN]) | (rewrite [kk]) | (rewrite [sD]) | (rewrite [K.ofN]) | (rewrite [K.add]; rotate_left; focus ((try simp only [K.df, D.df, V.df, true_and, and_true]) <;> omega)) | (rewrite [K.at_]; rotate_left; focus ((try simp only [K.df, D.df, V.df, true_and, and_true]) <;> omega)) | (rewrite [K.ltT]; rotate_left; focus ((try simp only [K.df, D.df, V.df, true_and, and_true]) <;> omega))); (try (conv => lhs; cbv)))); (exact rfl))) ?_
        refine headQ_ofH (by ((try (conv => lhs; cbv)); (exact rfl))) ?_
        refine ⟨him, _, _, _, rfl, ?_, ?_, ?_, ?_, ?_, ?_⟩
        · rw [K.pl_]; omega
        · rw [hSD, List.length_set]; exact hm
        · rw [hk2, K.pl_, List.length_append]; simp; omega
        · rw [hk2, List.length_append, hSD, K.tn_]
          have e : I.toNat = (keptW GG (l.take (k + 1 + i))).length := by omega
          rw [e, ← hmt]
          simp only [List.length_singleton, List.length_take]
          rw [Nat.min_eq_left (by omega), List.take_succ_eq_append_getElem (by rw [List.length_set]; omega), List.getElem_set_self, List.take_set_of_le (Nat.le_refl _)]
        · rw [hSD, K.tn_, List.drop_set_of_lt (by omega)]
          exact hdr
        · rw [K.pl_, K.pl_]; omega
    · obtain rfl : i = N - (k + 1) := by omega
      have htl : l.take (k + 1 + (N - (k + 1))) = l := List.take_of_length_le (by omega)
      rw [htl] at hI hmt
      obtain ⟨c, hc⟩ : ∃ c, c = (keptW GG l).length := ⟨_, rfl⟩
      have hcN : c ≤ N := by rw [hc, hN]; exact List.length_filter_le _ _
      rw [← hc] at hI hmt
      obtain ⟨R, hR⟩ : ∃ R, R = N - c := ⟨_, rfl⟩
      have ov : A .over (E m) c (A .zeros [.int .i64 0, .int .i64 0, .int .i64 0, .str ⟨#[]⟩, .int .i64 0, .str ⟨#[]⟩] R) = E (keptW GG l ++ List.replicate R zeroWr) := by
        rw [hA, real_over, real_zeros, D.E_, D.E_]
        unfold rOver
        rw [List.map_append, List.map_replicate, ← hmt, List.map_take]
        rw [List.length_replicate, List.drop_of_length_le (by rw [List.length_map]; omega), List.append_nil]
        rfl
      have cu1 : A .cuts 0 N (A .ln (E m)) (some I) none none = some (c, R) := by
        rw [hA, D.E_, hI]
        show rCuts 0 N (m.map _).length (some (c : Int)) none none = _
        simp [rCuts, rBound, hR, hcN, hm]
      have cu2 : A .cuts 0 N (A .ln (E (keptW GG l ++ List.replicate R zeroWr))) none (some I) none = some (0, c) := by
        rw [hA, D.E_, hI]
        have hzl : (keptW GG l ++ List.replicate R zeroWr).length = N := by rw [List.length_append, List.length_replicate]; omega
        show rCuts 0 N (List.map _ _).length none (some (c : Int)) none = _
        rw [List.length_map, hzl]
        simp [rCuts, rBound, hcN]
      rw [← hc, ← hR]
      generalize keptW GG l ++ List.replicate R zeroWr = zz at *
      refine wpV_ofH (by ((try (conv => lhs; cbv)); (repeat ((first | (rewrite [K.ofN]) | (rewrite [K.ltF]; rotate_left; focus ((try simp only [K.df, D.df, V.df, true_and, and_true]) <;> omega))); (try (conv => lhs; cbv)))); (exact rfl))) ?_
      show wpV _ _ _ _ _ _
      refine wpV_ofH (by ((try (conv => lhs; cbv)); (repeat ((first | (rewrite [cu1]) | (rewrite [ov]) | (rewrite [cu2])); (try (conv => lhs; cbv)))); (exact rfl))) ?_
      (show finV _ _ _ = some _; ((try (conv => lhs; cbv)); (try (with_reducible rfl))); (try rfl))
end Go.Proofs.Ytanpphoehajcgaa
