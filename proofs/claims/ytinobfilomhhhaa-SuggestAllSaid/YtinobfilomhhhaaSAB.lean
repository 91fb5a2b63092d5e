/- Words put into a dictionary and read from it: gone through. -/
import Derived.Test.YtinobfilomhhhaaSAC
set_option linter.unusedSimpArgs false
set_option linter.unusedVariables false
set_option maxRecDepth 100000
set_option maxHeartbeats 4000000
set_option cbv.maxSteps 10000000
namespace Go.Proofs.Ytinobfilomhhhaa
open Go GoV

theorem sidxN {A : Ar} (hA : A = real) {s : ByteArray} {i : Nat} {J : Int} (hJ : J = i) (h : i < s.size) : A .sidx s J = some ((((sbl s).getD i 0 : Nat)) : Int) := by
  rw [hA, hJ, real_sidx, if_pos (by omega), Int.toNat_natCast]
  have : s[i]? = some s[i] := getElem?_pos s i h
  rw [this]
  simp [sbl, List.getD_eq_getElem?_getD, h]
  rfl
theorem n58 (a b : ByteArray) (ha : a.size ≤ 900) (hb : b.size ≤ 900) : Pn 1001 58 [.one (.iv (.str a)), .one (.iv (.str b))] [] (i64 (lk a b)) [] := by
  refine playN 1000 rfl rfl fun A call hA hcall => ?_
  obtain ⟨pl, mi, ml, nt, tn, ad, sb, K⟩ := kit hA
  obtain ⟨E, ix, sn, ll, cc, sg, D⟩ := lkit hA K (⟨#[]⟩ : ByteArray) (fun s => [.str s]) 16
  obtain ⟨LA, hLA⟩ : ∃ x : Int, x = a.size := ⟨_, rfl⟩
  obtain ⟨LB, hLB⟩ : ∃ x : Int, x = b.size := ⟨_, rfl⟩
  have la : A .slen a = LA := by rw [hA, real_slen, hLA]
  have lb : A .slen b = LB := by rw [hA, real_slen, hLB]
  obtain ⟨MN, mn, h1, h2, h3⟩ : ∃ MN, A .mi LA LB = MN ∧ MN ≤ LA ∧ MN ≤ LB ∧ (MN = LA ∨ MN = LB) := by
    rcases Int.le_total LA LB with h | h
    · exact ⟨LA, K.miL h, by omega, h, .inl rfl⟩
    · exact ⟨LB, K.miR h, h, by omega, .inr rfl⟩
  have hle := lk_le a b
  obtain ⟨n, hn⟩ : ∃ n, n = lk a b := ⟨_, rfl⟩
  obtain ⟨R, hR⟩ : ∃ R : Int, R = (n : Nat) := ⟨_, rfl⟩
  rw [← hn, ← hR]
  rw [← hn] at hle
  apply wpV_seq; refine wpV_ofH (by ((try (conv => lhs; cbv)); (exact rfl))) ?_
  apply wpV_seq; refine wpV_ofH (by ((try (conv => lhs; cbv)); (exact rfl))) ?_
  apply wpV_seq; apply wpV_block
  refine wpV_loop n (fun i st => ∃ J : Int, st = ⟨0, [.one (.iv (.str a)), .one (.iv (.str b)), u, u, u, i64 J, u, u, u, u, u, u, u, u, u, u, u, u, u, u, u, u, u, u, u], []⟩ ∧ J = i ∧ n = i + likeN ((sbl a).drop i) ((sbl b).drop i)) (by omega) (by ((try (conv => lhs; cbv)); (try (with_reducible rfl)))) ⟨0, rfl, rfl, by rw [hn]; simp [lk]⟩ ?_
  rintro i hi st ⟨J, rfl, hJ, hgo⟩
  have sla := sbl_len a
  have slb := sbl_len b
  by_cases hlt : J < MN
  · have s1 := sidxN hA (s := a) hJ (by omega)
    have s2 := sidxN hA (s := b) hJ (by omega)
    rw [likeN_step (by omega) (by omega)] at hgo
    generalize (sbl a).getD i 0 = x at *
    generalize (sbl b).getD i 0 = y at *
    obtain ⟨X, hX⟩ : ∃ X : Int, X = x := ⟨_, rfl⟩
    obtain ⟨Y, hY⟩ : ∃ X : Int, X = y := ⟨_, rfl⟩
    rw [← hX] at s1
    rw [← hY] at s2
    by_cases h : x = y
    · rw [if_pos h] at hgo
      have he : X = Y := by rw [hX, hY, h]
      refine wpV_ofH (by ((try (conv => lhs; cbv)); (repeat ((first | (rewrite [la]) | (rewrite [lb]) | (rewrite [mn]) | (rewrite [s1]) | (rewrite [s2]) | (rewrite [K.add]; rotate_left; focus ((try simp only [K.df, D.df, true_and, and_true]) <;> omega)) | (rewrite [K.ltT]; rotate_left; focus ((try simp only [K.df, D.df, true_and, and_true]) <;> omega)) | (rewrite [K.eqT]; rotate_left; focus ((try simp only [K.df, D.df, true_and, and_true]) <;> omega))); (try (conv => lhs; cbv)))); (exact rfl))) ?_
      refine headQ_ofH (by ((try (conv => lhs; cbv)); (exact rfl))) ?_
      refine ⟨by omega, _, rfl, ?_, by omega⟩
      rw [K.pl_]; omega
    · rw [if_neg h] at hgo
      have he : X ≠ Y := by omega
      have : J = R := by omega
      subst this
      refine wpV_ofH (by ((try (conv => lhs; cbv)); (repeat ((first | (rewrite [la]) | (rewrite [lb]) | (rewrite [mn]) | (rewrite [s1]) | (rewrite [s2]) | (rewrite [K.ltT]; rotate_left; focus ((try simp only [K.df, D.df, true_and, and_true]) <;> omega)) | (rewrite [K.eqF]; rotate_left; focus ((try simp only [K.df, D.df, true_and, and_true]) <;> omega))); (try (conv => lhs; cbv)))); (exact rfl))) ?_
      show wpV _ _ _ _ _ _
      refine wpV_ofH (by ((try (conv => lhs; cbv)); (exact rfl))) ?_
      (show finV _ _ _ = some _; ((try (conv => lhs; cbv)); (try (with_reducible rfl))); (try rfl))
  · rw [likeN_end (by omega)] at hgo
    have : J = R := by omega
    subst this
    refine wpV_ofH (by ((try (conv => lhs; cbv)); (repeat ((first | (rewrite [la]) | (rewrite [lb]) | (rewrite [mn]) | (rewrite [K.ltF]; rotate_left; focus ((try simp only [K.df, D.df, true_and, and_true]) <;> omega))); (try (conv => lhs; cbv)))); (exact rfl))) ?_
    show wpV _ _ _ _ _ _
    refine wpV_ofH (by ((try (conv => lhs; cbv)); (exact rfl))) ?_
    (show finV _ _ _ = some _; ((try (conv => lhs; cbv)); (try (with_reducible rfl))); (try rfl))
abbrev dcB (n : Int) (H B : List ByteArray) (g g2 : Bool) : List Blk := [.var false [.iv (.int .i64 n), .slo 1 0 H.length, .slo 2 0 B.length], .arr false g 1 (eT H), .arr false g2 1 (eT B)]
theorem n33n (n : Int) (H B : List ByteArray) (w l : ByteArray) (i : Nat) (h4 : i % 4 = 0) (hi : i ≤ 100000) (hH : H.length ≤ 100000) (hB : B.length ≤ 100000) (hn : 0 ≤ n ∧ n ≤ 100000) :
    Pn 1 33 [.one (.ptr 0 0), .one (.iv (.str w)), .one (.iv (.str l)), i64 i] (dcB n H B false false) (.tup []) (dcB (n + 1) (H ++ [w]) (B ++ [⟨#[]⟩]) true true) := by
  refine playN 0 rfl rfl fun A call hA hcall => ?_
  obtain ⟨pl, mi, ml, nt, tn, ad, sb, K⟩ := kit hA
  obtain ⟨E, ix, sn, ll, cc, sg, D⟩ := lkit hA K (⟨#[]⟩ : ByteArray) (fun s => [.str s]) 16
  have hE : ∀ l, eT l = E l := fun l => by rw [D.E_]; rfl
  obtain ⟨I, hI⟩ : ∃ x : Int, x = (i : Nat) := ⟨_, rfl⟩
  have rm : A .ar .rem .i64 I 4 = 0 := by rw [hA]; exact (Int.tmod_eq_emod_of_nonneg (by omega)).trans (by omega)
  obtain ⟨n1, hn1⟩ : ∃ x : Int, x = n + 1 := ⟨_, rfl⟩
  have ad1 : A .ar .add .i64 n 1 = n1 := by rw [K.add (by omega), K.pl_, hn1]
  obtain ⟨a, ha⟩ : ∃ a, a = H.length := ⟨_, rfl⟩
  obtain ⟨b, hb⟩ : ∃ b, b = B.length := ⟨_, rfl⟩
  have ap := D.apo (l := H) (x := w) (b := 16) (n := a) ⟨ha, by omega⟩
  have ap2 := D.apo (l := B) (x := (⟨#[]⟩ : ByteArray)) (b := 16) (n := b) ⟨hb, by omega⟩
  rw [D.sn_, ← hE, ← hE] at ap
  rw [D.sn_, ← hE, ← hE] at ap2
  try dsimp only at ap ap2
  have l1 : A .ln (eT (H ++ [w])) = a + 1 := by rw [hA, real_ln, eT_len, List.length_append, ha]; rfl
  have l2 : A .ln (eT (B ++ [⟨#[]⟩])) = b + 1 := by rw [hA, real_ln, eT_len, List.length_append, hb]; rfl
  dsimp only [dcB]
  rw [List.length_append, List.length_append, ← ha, ← hb, List.length_singleton, List.length_singleton, ← hn1, ← hI]
  generalize eT (H ++ [w]) = e3 at *
  generalize eT (B ++ [⟨#[]⟩]) = e4 at *
  generalize eT H = e1 at *
  generalize eT B = e2 at *
  generalize a + 1 = a1 at *
  generalize b + 1 = b1 at *
  apply wpV_seq; refine wpV_ofH (by ((try (conv => lhs; cbv)); (repeat ((first | (rewrite [ad1])); (try (conv => lhs; cbv)))); (exact rfl))) ?_
  apply wpV_seq; refine wpV_ofH (by ((try (conv => lhs; cbv)); (repeat ((first | (rewrite [rm]) | (rewrite [ap]) | (rewrite [ap2]) | (rewrite [l1]) | (rewrite [l2]) | (rewrite [K.addN]) | (rewrite [K.nz]; rotate_left; focus ((try simp only [K.df, D.df, true_and, and_true]) <;> omega)) | (rewrite [K.eqT]; rotate_left; focus ((try simp only [K.df, D.df, true_and, and_true]) <;> omega))); (try (conv => lhs; cbv)))); (exact rfl))) ?_
  show finQ _ _ _ _ _
  (show finV _ _ _ = some _; ((try (conv => lhs; cbv)); (try (with_reducible rfl))); (try rfl))
theorem extK {A : Ar} (hA : A = real) (s : ByteArray) {k : Nat} {J : Int} (hJ : J = k) (h : k ≤ s.size) : A .sext s (some J) none = some (s.extract k s.size) ∧ A .sext s none (some J) = some (s.extract 0 k) := by
  rw [hA, real_sext, real_sext, hJ]
  unfold rSext rCut rBound
  simp [h]
theorem n33o (n : Int) (H B : List ByteArray) (w l b : ByteArray) (i : Nat) (h4 : i % 4 ≠ 0) (hi : i ≤ 100000) (hw : w.size ≤ 64) (hl : l.size ≤ 64) (hb : b.size ≤ 10000) (hH : H.length ≤ 100000) (hB : B.length ≤ 100000) (hn : 0 ≤ n ∧ n ≤ 100000) :
    Pn 1010 33 [.one (.ptr 0 0), .one (.iv (.str w)), .one (.iv (.str l)), i64 i] (dcB n H (B ++ [b]) false false) (.tup []) (dcB (n + 1) H (B ++ [b ++ strO (encW l w)]) false false) := by
  refine playN 1009 rfl rfl fun A call hA hcall => ?_
  obtain ⟨pl, mi, ml, nt, tn, ad, sb, K⟩ := kit hA
  obtain ⟨E, ix, sn, ll, cc, sg, D⟩ := lkit hA K (⟨#[]⟩ : ByteArray) (fun s => [.str s]) 16
  have hE : ∀ l, eT l = E l := fun l => by rw [D.E_]; rfl
  obtain ⟨I, hI⟩ : ∃ x : Int, x = (i : Nat) := ⟨_, rfl⟩
  obtain ⟨R, rm, hR⟩ : ∃ R, A .ar .rem .i64 I 4 = R ∧ R ≠ 0 := by
    refine ⟨I % 4, ?_, by omega⟩
    rw [hA]; exact Int.tmod_eq_emod_of_nonneg (by omega)
  obtain ⟨n1, hn1⟩ : ∃ x : Int, x = n + 1 := ⟨_, rfl⟩
  have ad1 : A .ar .add .i64 n 1 = n1 := by rw [K.add (by omega), K.pl_, hn1]
  have hle := lk_le w l
  have k58 := n58 w l (by omega) (by omega) 1009 (by omega)
  have k60 := n60 [] true 0 (.inl rfl) (x := lk w l) (by omega) (by simp) 1009 (by omega)
  have ts := tlW_size l w
  have el := enc_len (lk w l)
  have nl := nd_le (lk w l)
  have k59 := fun t => n59 (enc (lk w l)) t 1 (.inr rfl) (tlW l w) (by omega) (by omega) 1009 (by omega)
  rw [List.nil_append, show by8 [] = [] from rfl] at k60
  simp only [← hcall] at k58 k60 k59
  obtain ⟨C, hC⟩ : ∃ x : Int, x = ((lk w l : Nat) : Int) := ⟨_, rfl⟩
  have ex := (extK hA w hC hle.1).1
  rw [← hC] at k58 k60
  rw [show w.extract (lk w l) w.size = tlW l w from rfl] at ex
  have b1 : A .b2s (by8 (enc (lk w l) ++ (enc (tlW l w).size ++ sbl (tlW l w)))) = some (strO (encW l w)) := by rw [hA, b2s_by8]; rfl
  have hes : (strO (encW l w)).size ≤ 100 := by
    have := encW_len l w
    have h2 : (strO (encW l w)).size = (encW l w).length := by simp [strO, ByteArray.size]
    omega
  have sc : A .scat b (strO (encW l w)) = some (b ++ strO (encW l w)) := by
    rw [hA, real_scat, if_neg]
    simp only [IntKind.max, IntKind.signed, IntKind.bits]
    omega
  generalize strO (encW l w) = S at *
  obtain ⟨m, hm⟩ : ∃ m, m = B.length := ⟨_, rfl⟩
  obtain ⟨a, ha⟩ : ∃ a, a = H.length := ⟨_, rfl⟩
  obtain ⟨M, hM⟩ : ∃ x : Int, x = ((m : Nat) : Int) := ⟨_, rfl⟩
  obtain ⟨M1, hM1⟩ : ∃ x : Int, x = ((m + 1 : Nat) : Int) := ⟨_, rfl⟩
  have ofn : A .ofN (m + 1) = M1 := by rw [hA, real_ofN, hM1]
  have su : A .ar .sub .i64 M1 1 = M := by rw [K.sub (by omega), K.mi_]; omega
  have at1 : A .at_ M (m + 1) = some m := by rw [K.at_ (by omega), K.tn_]; congr 1; omega
  have gb : A .getN (eT (B ++ [b])) m = some [.str b] := by
    rw [hA, real_getN, hm, eT, List.map_append, List.getElem?_append_right (by simp)]; simp
  have st : A .set (eT (B ++ [b])) m 0 [.str (b ++ S)] = some (eT (B ++ [b ++ S])) := by
    rw [hA, real_set, hm]; unfold rSet
    rw [show (eT (B ++ [b]))[B.length]? = some [.str b] by rw [eT, List.map_append, List.getElem?_append_right (by simp)]; simp]
    simp [eT, plainI, List.set_append_right]
  have sgX : ∀ x : List Nat, A .seg (by8 x) 0 x.length = by8 x := fun x => by
    rw [hA, real_seg]; unfold rSeg; rw [List.drop_zero, List.take_of_length_le (by rw [by8_len]; omega)]
  have sg3 := sgX (enc (lk w l))
  have sg2 := sgX (enc (lk w l) ++ (enc (tlW l w).size ++ sbl (tlW l w)))
  obtain ⟨bS, hbS⟩ : ∃ x, x = b ++ S := ⟨_, rfl⟩
  rw [← hbS] at sc st ⊢
  dsimp only [dcB]
  rw [List.length_append, List.length_append, List.length_singleton, List.length_singleton, ← ha, ← hm, ← hn1, ← hI]
  generalize (enc (lk w l) ++ (enc (tlW l w).size ++ sbl (tlW l w))).length = q1 at *
  generalize by8 (enc (lk w l) ++ (enc (tlW l w).size ++ sbl (tlW l w))) = q2 at *
  generalize by8 (enc (lk w l)) = q3 at *
  generalize (enc (lk w l)).length = q4 at *
  generalize tlW l w = T at *
  generalize eT (B ++ [b]) = e3 at *
  generalize eT (B ++ [bS]) = e4 at *
  generalize eT H = e1 at *
  generalize m + 1 = m1 at *
  clear sgX
  apply wpV_seq; refine wpV_ofH (by ((try (conv => lhs; cbv)); (repeat ((first | (rewrite [ad1])); (try (conv => lhs; cbv)))); (exact rfl))) ?_
  apply wpV_seq; refine wpV_ofH (by ((try (conv => lhs; cbv)); (repeat ((first | (rewrite [rm]) | (rewrite [K.addN]) | (rewrite [K.nz]; rotate_left; focus ((try simp only [K.df, D.df, true_and, and_true]) <;> omega)) | (rewrite [K.eqF]; rotate_left; focus ((try simp only [K.df, D.df, true_and, and_true]) <;> omega))); (try (conv => lhs; cbv)))); (exact rfl))) ?_
  apply wpV_seq; refine wpV_ofH (by ((try (conv => lhs; cbv)); (repeat ((first | (rewrite [k58])); (try (conv => lhs; cbv)))); (exact rfl))) ?_
  apply wpV_seq; refine wpV_ofH (by ((try (conv => lhs; cbv)); (repeat ((first | (rewrite [k60]) | (rewrite [ex]) | (rewrite [sg3]) | (rewrite [k59])); (try (conv => lhs; cbv)))); (exact rfl))) ?_
  refine wpV_ofH (by ((try (conv => lhs; cbv)); (repeat ((first | (rewrite [ofn]) | (rewrite [su]) | (rewrite [at1]) | (rewrite [gb]) | (rewrite [sg2]) | (rewrite [b1]) | (rewrite [sc]) | (rewrite [st])); (try (conv => lhs; cbv)))); (exact rfl))) ?_
  (show finV _ _ _ = some _; ((try (conv => lhs; cbv)); (try (with_reducible rfl))); (try rfl))
end Go.Proofs.Ytinobfilomhhhaa
