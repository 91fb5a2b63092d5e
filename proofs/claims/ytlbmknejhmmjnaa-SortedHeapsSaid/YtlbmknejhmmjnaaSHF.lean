/- A heap gives what was put in, the first by the order first: the law. -/
import Derived.Test.YtlbmknejhmmjnaaSHE
set_option linter.unusedSimpArgs false
set_option linter.unusedVariables false
set_option maxRecDepth 100000
set_option maxHeartbeats 4000000
set_option cbv.maxSteps 10000000
namespace Go.Proofs.Ytlbmknejhmmjnaa
open Go GoV

def idxN (d : Int) : List Int → Nat → Int
  | [], _ => -1
  | x :: r, i => if d = x then i else idxN d r (i + 1)
theorem idxN_split {d : Int} : ∀ {a : List Int} {b : List Int} {i : Nat}, d ∉ a → idxN d (a ++ d :: b) i = ((i + a.length : Nat) : Int)
  | [], b, i, _ => by simp [idxN]
  | x :: r, b, i, h => by
    simp only [List.mem_cons, not_or] at h
    rw [List.cons_append, idxN, if_neg h.1, idxN_split h.2, List.length_cons]
    congr 1; omega
theorem q41 (l : List Int) (d : Int) (t : Bool) (hl : l.length ≤ 900) : Pn 1000 41 [.one (.iv (.sl t 1 (eN l))), i64 d] [] (i64 (idxN d l 0)) [] := by
  refine playN 999 rfl rfl fun A call hA hcall => ?_
  obtain ⟨pl, mi, ml, nt, tn, ad, sb, K⟩ := kit hA
  obtain ⟨E, ix, sn, ll, cc, sg, D⟩ := lkit hA K (0 : Int) (fun z => [.int .i64 z]) 8
  have hE : ∀ l, eN l = E l := fun l => by rw [D.E_]; rfl
  rw [hE]
  obtain ⟨M, hM⟩ : ∃ M : Int, M = nt (ll l) := ⟨_, rfl⟩
  have hMl : M = l.length := by rw [hM, K.nt_, D.ll_]
  have ln : A .len (E l) = M := by rw [D.len, hM]
  generalize hR : idxN d l 0 = R
  apply wpV_seq; refine wpV_ofH (by ((try (conv => lhs; cbv)); (exact rfl))) ?_
  apply wpV_seq; apply wpV_seq; refine wpV_ofH (by ((try (conv => lhs; cbv)); (repeat ((first | (rewrite [ln])); (try (conv => lhs; cbv)))); (exact rfl))) ?_
  apply wpV_block
  refine wpV_loop l.length (fun i st => ∃ J : Int, st = ⟨0, [.one (.iv (.sl t 1 (E l))), i64 d, u, u, u, u, u, i64 M, i64 J, u, u, u, u, u, u, u, u, u, u], []⟩ ∧ J = i ∧ idxN d (l.drop i) i = R) (by omega) (by ((try (conv => lhs; cbv)); (try (with_reducible rfl)))) ⟨0, rfl, rfl, hR⟩ ?_
  rintro i hi st ⟨J, rfl, hJ, hgo⟩
  by_cases him : i < l.length
  · have hd : l.drop i = ix l J :: l.drop (i + 1) := by
      rw [D.ix_, hJ, Int.toNat_natCast, List.drop_eq_getElem_cons (by omega), List.getD_eq_getElem?_getD, List.getElem?_eq_getElem (by omega)]; rfl
    rw [hd, idxN] at hgo
    have g := D.get (l := l) (J := J) (by omega)
    generalize ix l J = x at *
    by_cases h : d = x
    · rw [if_pos h] at hgo
      rw [← hgo, ← hJ]
      refine wpV_ofH (by ((try (conv => lhs; cbv)); (repeat ((first | (rewrite [g]) | (rewrite [K.ltT]; rotate_left; focus ((try simp only [K.df, D.df, true_and, and_true]) <;> omega)) | (rewrite [K.eqT]; rotate_left; focus ((try simp only [K.df, D.df, true_and, and_true]) <;> omega))); (try (conv => lhs; cbv)))); (exact rfl))) ?_
      show finQ _ _ _ _ _
      (show finV _ _ _ = some _; ((try (conv => lhs; cbv)); (try (with_reducible rfl))); (try rfl))
    · rw [if_neg h] at hgo
      refine wpV_ofH (by ((try (conv => lhs; cbv)); (repeat ((first | (rewrite [g]) | (rewrite [K.add]; rotate_left; focus ((try simp only [K.df, D.df, true_and, and_true]) <;> omega)) | (rewrite [K.ltT]; rotate_left; focus ((try simp only [K.df, D.df, true_and, and_true]) <;> omega)) | (rewrite [K.eqF]; rotate_left; focus ((try simp only [K.df, D.df, true_and, and_true]) <;> omega))); (try (conv => lhs; cbv)))); (exact rfl))) ?_
      refine headQ_ofH (by ((try (conv => lhs; cbv)); (exact rfl))) ?_
      refine ⟨him, _, rfl, ?_, hgo⟩
      rw [K.pl_]; omega
  · obtain rfl : i = l.length := by omega
    rw [List.drop_of_length_le (Nat.le_refl _), idxN] at hgo
    rw [← hgo]
    refine wpV_ofH (by ((try (conv => lhs; cbv)); (repeat ((first | (rewrite [K.ltF]; rotate_left; focus ((try simp only [K.df, D.df, true_and, and_true]) <;> omega))); (try (conv => lhs; cbv)))); (exact rfl))) ?_
    show wpV _ _ _ _ _ _
    refine wpV_ofH (by ((try (conv => lhs; cbv)); (exact rfl))) ?_
    (show finV _ _ _ = some _; ((try (conv => lhs; cbv)); (try (with_reducible rfl))); (try rfl))
theorem segN {A : Ar} (hA : A = real) (p q : List Int) {n : Nat} (h : n = p.length) : A .seg (eN (p ++ q)) 0 n = eN p := by
  rw [hA, real_seg]; unfold rSeg; rw [eN_app, List.drop_zero, List.take_left' (by simp [eN, h])]
theorem apoN {A : Ar} (hA : A = real) (l zi : List Int) (x : Int) {n : Nat} (h : n = l.length) (hl : l.length ≤ 100000) : ∃ t, A .apo 8 0 n (eN (l ++ zi)) [[.int .i64 x]] = some (t, eN ((l ++ [x]) ++ zi.drop 1)) ∧ (t = true → A .ln (eN ((l ++ [x]) ++ zi.drop 1)) = n + 1) := by
  subst h
  cases zi with
  | nil =>
    refine ⟨true, ?_, fun _ => ?_⟩
    · rw [hA, real_apo]; unfold rApo room
      rw [if_pos (by simp [eN]), if_pos ⟨by simp; omega, .inl rfl⟩]
      simp [eN, e1]
    · rw [hA, real_ln, eN_len]; simp
  | cons z r =>
    refine ⟨false, ?_, fun h => by cases h⟩
    rw [hA, real_apo]; unfold rApo
    rw [if_neg (by rw [eN_len]; simp), if_pos (by rw [eN_len]; simp)]
    unfold rOver eN
    have t1 : List.take (0 + l.length) (List.map e1 (l ++ z :: r)) = List.map e1 l := by rw [Nat.zero_add, ← List.map_take, List.take_left' rfl]
    have t2 : List.drop (0 + l.length + [[IV.int IntKind.i64 x]].length) (List.map e1 (l ++ z :: r)) = List.map e1 r := by
      rw [Nat.zero_add, ← List.map_drop, show l.length + [[IV.int IntKind.i64 x]].length = l.length + 1 from rfl, ← List.drop_drop, List.drop_left' rfl]; rfl
    rw [t1, t2]
    simp [e1]
theorem awk : ∃ k, Qn k 13 [] [] (bl true) [] := by
  have h : play real (lookT tab) prJ 200 13 [] [] = some (bl true, []) := by kernel_rfl
  exact ⟨200, fun m hm => play_mono prJ_mono hm _ _ _ _ h⟩
theorem srtN_eq {a b : List Int} (h : a.Perm b) : srtN a = srtN b := by
  have h1 : (srtN a).Perm (srtN b) := ((List.mergeSort_perm a _).trans h).trans (List.mergeSort_perm b _).symm
  refine h1.eq_of_pairwise (le := fun x y : Int => x ≤ y) ?_ ?_ ?_
  · intro x y _ _ h1 h2; omega
  · have := List.pairwise_mergeSort (le := fun x y : Int => decide (x ≤ y)) (fun a b c h1 h2 => by simp only [decide_eq_true_eq] at *; omega) (fun a b => by simp only [Bool.or_eq_true, decide_eq_true_eq]; omega) a
    exact this.imp fun h => of_decide_eq_true h
  · have := List.pairwise_mergeSort (le := fun x y : Int => decide (x ≤ y)) (fun a b c h1 h2 => by simp only [decide_eq_true_eq] at *; omega) (fun a b => by simp only [Bool.or_eq_true, decide_eq_true_eq]; omega) b
    exact this.imp fun h => of_decide_eq_true h
theorem srtN_len (l : List Int) : (srtN l).length = l.length := List.length_mergeSort l
theorem hmin {c : List Int} (h : Heap ltB c) (h0 : 0 < c.length) : ∀ a, a ∈ c → ky c[0] ≤ ky a := fun a ha => by
  obtain ⟨k, hk, rfl⟩ := List.mem_iff_getElem.1 ha
  have := heap_min ltB_sw h h0 k hk
  simp only [ltB, decide_eq_false_iff_not] at this
  omega
theorem q17 (l : List Int) (g : Bool) (hl : l.length ≤ 900) (hin : ∀ y, y ∈ l → inR y) : Pn 1102 17 [.one (.slo 0 0 l.length)] [.arr false g 1 (eN l)] (.one (.slo 1 0 l.length)) [.arr false g 1 (eN l), .arr false false 1 (eN (l.map ky))] := by
  refine playN 1101 rfl rfl fun A call hA hcall => ?_
  obtain ⟨pl, mi, ml, nt, tn, ad, sb, K⟩ := kit hA
  obtain ⟨E, ix, sn, ll, cc, sg, D⟩ := lkit hA K (0 : Int) (fun z => [.int .i64 z]) 8
  have hE : ∀ l, eN l = E l := fun l => by rw [D.E_]; rfl
  have hE0 : E [] = [] := by rw [D.E_]; rfl
  have k44 : ∀ x, inR x → call 44 [i64 x] [] = some (i64 (ky x), []) := fun x h => by rw [hcall]; exact p44 x h 1101 (by omega)
  rw [hE, hE]
  obtain ⟨N, hN⟩ : ∃ N, N = l.length := ⟨_, rfl⟩
  obtain ⟨M, hM⟩ : ∃ M : Int, M = nt N := ⟨_, rfl⟩
  have hMl : M = N := by rw [hM, K.nt_]
  have ofN : A .ofN N = M := by rw [K.ofN, hM]
  rw [← hN]
  apply wpV_seq; refine wpV_ofH (by ((try (conv => lhs; cbv)); (exact rfl))) ?_
  apply wpV_seq; refine wpV_ofH (by ((try (conv => lhs; cbv)); (exact rfl))) ?_
  apply wpV_seq; apply wpV_seq; refine wpV_ofH (by ((try (conv => lhs; cbv)); (repeat ((first | (rewrite [ofN])); (try (conv => lhs; cbv)))); (exact rfl))) ?_
  apply wpV_block
  refine wpV_loop N (fun i st => ∃ (J : Int) (k : Nat) (m : List Int), st = ⟨1, [u, u, u, .one (.slo 1 0 k), u, u, .one (.slo 0 0 N), i64 M, i64 J, u, u, u, u, u, u, u, u, u, u], [.arr false g 1 (E l), .arr false false 1 (E m)]⟩ ∧ J = i ∧ m = (l.take i).map ky ∧ k = m.length) (by omega) (by ((try (conv => lhs; cbv)); (try (with_reducible rfl)))) ⟨0, 0, [], by rw [hE0], rfl, rfl, rfl⟩ ?_
  rintro i hi st ⟨J, k, m, rfl, hJ, hm, hk⟩
  have hml : m.length ≤ i := by rw [hm, List.length_map, List.length_take]; omega
  by_cases him : i < N
  · have gN := D.getN (l := l) (J := J) (by omega)
    have at1 : A .at_ J N = some (tn J) := K.at_ (by omega)
    have hx : ix l J = l.getD i 0 := by rw [D.ix_, hJ]; rfl
    have hxi : inR (ix l J) := by
      rw [hx, List.getD_eq_getElem?_getD, List.getElem?_eq_getElem (by omega)]
      exact hin _ (List.getElem_mem (by omega))
    have hk2 : (l.take (i + 1)).map ky = m ++ [ky (l.getD i 0)] := by
      rw [List.take_succ_eq_append_getElem (by omega), List.getD_eq_getElem?_getD, List.getElem?_eq_getElem (by omega), List.map_append, ← hm]; rfl
    rw [← hx] at hk2
    generalize ix l J = x at *
    have kk := k44 x hxi
    generalize ky x = y at *
    have ap := D.apo (l := m) (x := y) (b := 8) (n := k) ⟨hk, by omega⟩
    try dsimp only at gN ap
    refine wpV_ofH (by ((try (conv => lhs; cbv)); (repeat ((first | (rewrite [at1]) | (rewrite [gN]) | (rewrite [kk]) | (rewrite [ap]) | (rewrite [K.add]; rotate_left; focus ((try simp only [K.df, D.df, true_and, and_true]) <;> omega)) | (rewrite [D.ln]) | (rewrite [K.ltT]; rotate_left; focus ((try simp only [K.df, D.df, true_and, and_true]) <;> omega))); (try (conv => lhs; cbv)))); (exact rfl))) ?_
    refine headQ_ofH (by ((try (conv => lhs; cbv)); (exact rfl))) ?_
    refine ⟨him, _, _, _, rfl, ?_, ?_, ?_⟩
    · rw [K.pl_]; omega
    · rw [hk2, D.sn_]
    · rw [D.ll_]
  · obtain rfl : i = N := by omega
    rw [List.take_of_length_le (by omega)] at hm
    subst hm
    rw [List.length_map, ← hN] at hk
    rw [← hk]
    refine wpV_ofH (by ((try (conv => lhs; cbv)); (repeat ((first | (rewrite [K.ltF]; rotate_left; focus ((try simp only [K.df, D.df, true_and, and_true]) <;> omega))); (try (conv => lhs; cbv)))); (exact rfl))) ?_
    show wpV _ _ _ _ _ _
    refine wpV_ofH (by ((try (conv => lhs; cbv)); (exact rfl))) ?_
    (show finV _ _ _ = some _; ((try (conv => lhs; cbv)); (try (with_reducible rfl))); (try rfl))
theorem law8 (l takes : List Int) (hin : ∀ y, y ∈ l → inR y) : ∃ n, play real (lookT tab) prJ n 8 [slE false l, slE false takes] [] = some (bl true, []) := by
  obtain ⟨kw, hw⟩ := awk
  obtain ⟨n, hn⟩ : ∃ n, n = kw + l.length + 7000 := ⟨_, rfl⟩
  refine ⟨n + 1, playQ n rfl rfl (fun A call hA hcall => ?_) (n + 1) (Nat.le_refl _)⟩
  obtain ⟨pl, mi, ml, nt, tn, ad, sb, K⟩ := kit hA
  obtain ⟨E, ix, sn, ll, cc, sg, D⟩ := lkit hA K (0 : Int) (fun z => [.int .i64 z]) 8
  have hE : ∀ l, eN l = E l := fun l => by rw [D.E_]; rfl
  have hE0 : E [] = [] := by rw [D.E_]; rfl
  have k13 : call 13 [] [] = some (bl true, []) := by rw [hcall]; exact hw n (by omega)
  have k37 := lift (q37 n (by omega))
  rw [← hcall] at k37
  have fin : ∀ (inl zi c : List Int) (zs : List (List IV)), Heap ltB c → c.Perm inl → (∀ y, y ∈ inl → inR y) → inl.length ≤ 200 → ∀ (N : Nat) (IN HP : List (List IV)), N = inl.length → IN = eN (inl ++ zi) → HP = c.map e1 ++ zs →
      ∀ st0, headV false [5, 6, 12] st0 = some ⟨0, (u :: u :: u :: u :: u :: .one (.ptr 0 0) :: .one (.slo 1 0 N) :: u :: u :: u :: u :: u :: .one (.slo 2 0 0) :: u :: u :: u :: u :: u :: u :: u :: u :: u :: u :: u :: u :: u :: u :: u :: u :: u :: u :: u :: u :: u :: u :: u :: u :: u :: u :: u :: u :: u :: u :: u :: u :: u :: u :: u :: u :: u :: u :: u :: u :: u :: u :: u :: u :: u :: u :: u :: u :: u :: u :: u :: u :: u :: u :: u :: u :: u :: u :: u :: u :: u :: u :: u :: u :: u :: u :: u :: u :: u :: u :: u :: u :: u :: u :: u :: u :: u :: u :: u :: u :: u :: u :: u :: u :: u :: u :: u :: u :: u :: u :: u :: u :: u :: u :: u :: []), [.var false [.slo 3 0 N, .iv (.fn 12)], .arr false false 1 IN, .arr false false 1 [], .arr false false 1 HP]⟩ →
      wpV A call (iterN n) (.block 2 (.loop false [5, 6, 12] l8_1)) st0 (seqQ A call (iterN n) (.seq (.region false [oM 87 12, o1 88 (.call 17 [(true, .t 87)]), oM 15 88]) (.seq (.region false [oM 89 12, o1 90 (.call 43 [(true, .t 89)])]) (.seq (.region false [oM 91 6, o1 92 (.call 43 [(true, .t 91)])]) (.seq (.region false [oM 93 15, o1 94 (.call 21 [(false, .t 93)]), oM 95 94, oG 96 (.mov none (.t 12)) 95 true, oG 97 (.mov none (.t 6)) 95 true, oG 98 (.call 10 [(false, .t 96), (false, .t 97)]) 95 true, o1 99 (.pick (.t 95) (.t 98) (kB false)), oM 100 99, oG 101 (.mov none (.t 5)) 100 true, oG 102 (.call 40 [(false, .t 101)]) 100 true, oG 103 (.bin .eql (.t 102) (kI 0)) 100 true, o1 104 (.pick (.t 100) (.t 103) (kB false)), oM 105 104, oG 106 (.call 13 []) 105 true, o1 107 (.pick (.t 105) (.t 106) (kB false)), oM 4 107]) (.ret))))) (finQ A v8 (bl true, []))) := by
    intro inl zi c zs hc hp hir hl200 N IN HP hN hIN hHP st0 hst
    have hcl : c.length = inl.length := hp.length_eq
    apply wpV_block
    refine wpV_loop N (fun j st => ∃ (k m : Nat) (o HP : List (List IV)), st = ⟨0, (u :: u :: u :: u :: u :: .one (.ptr 0 0) :: .one (.slo 1 0 N) :: u :: u :: u :: u :: u :: .one (.slo 2 0 k) :: u :: u :: u :: u :: u :: u :: u :: u :: u :: u :: u :: u :: u :: u :: u :: u :: u :: u :: u :: u :: u :: u :: u :: u :: u :: u :: u :: u :: u :: u :: u :: u :: u :: u :: u :: u :: u :: u :: u :: u :: u :: u :: u :: u :: u :: u :: u :: u :: u :: u :: u :: u :: u :: u :: u :: u :: u :: u :: u :: u :: u :: u :: u :: u :: u :: u :: u :: u :: u :: u :: u :: u :: u :: u :: u :: u :: u :: u :: u :: u :: u :: u :: u :: u :: u :: u :: u :: u :: u :: u :: u :: u :: u :: u :: u :: []), [.var false [.slo 3 0 m, .iv (.fn 12)], .arr false false 1 IN, .arr false false 1 o, .arr false false 1 HP]⟩ ∧ ∃ (out c : List Int) (zs : List (List IV)), o = eN out ∧ k = out.length ∧ k = j ∧ m = c.length ∧ HP = c.map e1 ++ zs ∧ Heap ltB c ∧ (out ++ c).Perm inl ∧ (out.Pairwise fun a b => ky a ≤ ky b) ∧ ∀ a b, a ∈ out → b ∈ c → ky a ≤ ky b) (by omega) hst ⟨0, N, [], HP, rfl, [], c, zs, rfl, rfl, rfl, by omega, hHP, hc, by simpa using hp, List.Pairwise.nil, fun a b h => by simp at h⟩ ?_
    rintro j hj st ⟨k, m, o, HP, rfl, out, c, zs, ho, hk, hkj, hm, hHP, hc, hp, hs, hle⟩
    have hlen := hp.length_eq
    rw [List.length_append] at hlen
    have hcin : ∀ y, y ∈ c → inR y := fun y hy => hir y (hp.mem_iff.1 (List.mem_append_right _ hy))
    by_cases h0 : 0 < c.length
    · obtain ⟨r, ⟨c', zs', hc', hp', rfl⟩, k39⟩ := p39 c zs hc h0 (by omega) hcin
      have k39 := lift (k39 n (by omega))
      rw [← hcall, ← hHP, ← hm] at k39
      have hmn := hmin hc h0
      generalize hy : c[0] = y at *
      obtain ⟨HP2, hHP2⟩ : ∃ e, e = c'.map e1 ++ zs' := ⟨_, rfl⟩
      rw [← hHP2] at k39
      obtain ⟨KI, hKI⟩ : ∃ x : Int, x = (k : Nat) := ⟨_, rfl⟩
      have ofk : A .ofN k = KI := by rw [K.ofN, K.nt_, hKI]
      have ap := D.apo (l := out) (x := y) (b := 8) (n := k) ⟨hk, by omega⟩
      rw [← hE, ← hE, ← ho, D.sn_] at ap
      have hl2 : A .ln (eN (out ++ [y])) = k + 1 := by rw [hA, real_ln, eN_len, List.length_append, hk]; rfl
      obtain ⟨o2, ho2⟩ : ∃ e, e = eN (out ++ [y]) := ⟨_, rfl⟩
      rw [← ho2] at ap hl2
      have hcp : c'.length = c.length - 1 := by
        have := hp'.length_eq
        simp only [List.length_cons] at this
        omega
      generalize hm1 : m - 1 = m1 at *
      generalize hk1 : k + 1 = k1 at *
      dsimp only [hbk] at k39
      refine wpV_ofH (by ((try (conv => lhs; cbv)); (repeat ((first | (rewrite [k39]) | (rewrite [ofk]) | (rewrite [ap]) | (rewrite [hl2]) | (rewrite [K.gtF]; rotate_left; focus ((try simp only [K.df, D.df, true_and, and_true]) <;> omega))); (try (conv => lhs; cbv)))); (exact rfl))) ?_
      refine headQ_ofH (by ((try (conv => lhs; cbv)); (exact rfl))) ?_
      refine ⟨by omega, _, _, _, _, rfl, out ++ [y], c', zs', ho2, by rw [List.length_append, ← hk]; exact hk1.symm, by omega, by omega, hHP2, hc', ?_, ?_, ?_⟩
      · refine List.Perm.trans ?_ hp
        rw [List.append_assoc]
        exact (List.Perm.append_left out hp')
      · refine List.pairwise_append.2 ⟨hs, by simp, fun a ha b hb => ?_⟩
        rw [List.mem_singleton] at hb
        subst hb
        exact hle a b ha (by rw [← hy]; exact List.getElem_mem h0)
      · intro a b ha hb
        have hbc : b ∈ c := hp'.mem_iff.1 (List.mem_cons_of_mem _ hb)
        rcases List.mem_append.1 ha with ha | ha
        · exact hle a b ha hbc
        · rw [List.mem_singleton] at ha
          subst ha
          exact hmn b hbc
    · obtain rfl : c = [] := List.eq_nil_of_length_eq_zero (by omega)
      rw [List.append_nil] at hp
      have hm0 : m = 0 := hm
      subst hm0
      have k39 := lift (p39e HP n (by omega))
      rw [← hcall] at k39
      have k40 := lift (p40 0 HP n (by omega))
      rw [← hcall] at k40
      rw [show ((0 : Nat) : Int) = 0 from rfl] at k40
      have hol : out.length = inl.length := hp.length_eq
      have hoir : ∀ y, y ∈ out → inR y := fun y hy => hir y (hp.mem_iff.1 hy)
      have k17 := lift (q17 out false (by omega) hoir n (by omega))
      have k43o := q43 out [] false (by omega) n (by omega)
      have k43i := q43 inl zi false (by omega) n (by omega)
      have k21 := fun t => lift (q21 (out.map ky) t (by rw [List.length_map]; omega) (List.pairwise_map.2 hs) n (by omega))
      have k10 := fun f g => lift (p10 f g (srtN inl) (by rw [srtN_len]; omega) n (by omega))
      rw [List.append_nil, List.append_nil, srtN_eq hp] at k43o
      rw [← hcall] at k43o k43i k17
      simp only [← hcall] at k21 k10
      have so : A .seg o 0 k = o := by
        have := segN hA out [] hk
        rwa [List.append_nil, ← ho] at this
      have sk : A .seg ((out.map ky).map e1) 0 k = (out.map ky).map e1 := by
        have := segN hA (out.map ky) [] (n := k) (by rw [List.length_map]; exact hk)
        rwa [List.append_nil] at this
      have s1 : A .seg ((srtN inl).map e1) 0 k = (srtN inl).map e1 := by
        have := segN hA (srtN inl) [] (n := k) (by rw [srtN_len]; omega)
        rwa [List.append_nil] at this
      have s2 : A .seg ((srtN inl ++ zi).map e1) 0 N = (srtN inl).map e1 := segN hA (srtN inl) zi (by rw [srtN_len]; omega)
      rw [show (inl ++ zi).map e1 = IN from hIN.symm, ← hN] at k43i
      rw [show out.map e1 = o from ho.symm, ← hk] at k43o
      dsimp only [slE] at k10
      rw [← ho, ← hk, show eN (out.map ky) = (out.map ky).map e1 from rfl] at k17
      dsimp only [hbk] at k39 k40
      generalize (srtN inl ++ zi).map e1 = e4 at *
      generalize (srtN inl).map e1 = e3 at *
      generalize (out.map ky).map e1 = e2 at *
      refine wpV_ofH (by ((try (conv => lhs; cbv)); (repeat ((first | (rewrite [k39])); (try (conv => lhs; cbv)))); (exact rfl))) ?_
      show wpV _ _ _ _ _ _
      apply wpV_seq; refine wpV_ofH (by ((try (conv => lhs; cbv)); (repeat ((first | (rewrite [k17])); (try (conv => lhs; cbv)))); (exact rfl))) ?_
      apply wpV_seq; refine wpV_ofH (by ((try (conv => lhs; cbv)); (repeat ((first | (rewrite [k43o])); (try (conv => lhs; cbv)))); (exact rfl))) ?_
      apply wpV_seq; refine wpV_ofH (by ((try (conv => lhs; cbv)); (repeat ((first | (rewrite [k43i])); (try (conv => lhs; cbv)))); (exact rfl))) ?_
      apply wpV_seq; refine wpV_ofH (by ((try (conv => lhs; cbv)); (repeat ((first | (rewrite [sk]) | (rewrite [k21]) | (rewrite [s1]) | (rewrite [s2]) | (rewrite [k10]) | (rewrite [k40]) | (rewrite [k13]) | (rewrite [K.eqT]; rotate_left; focus ((try simp only [K.df, D.df, true_and, and_true]) <;> omega))); (try (conv => lhs; cbv)))); (exact rfl))) ?_
      refine wpV_ofH (by ((try (conv => lhs; cbv)); (exact rfl))) ?_
      (show finV _ _ _ = some _; ((try (conv => lhs; cbv)); (try (with_reducible rfl))); (try rfl))
  obtain ⟨M, hM⟩ : ∃ M : Int, M = nt (ll l) := ⟨_, rfl⟩
  have hMl : M = l.length := by rw [hM, K.nt_, D.ll_]
  have ln : A .len (E l) = M := by rw [D.len, hM]
  obtain ⟨M2, hM2⟩ : ∃ M : Int, M = nt (ll takes) := ⟨_, rfl⟩
  have hMl2 : M2 = takes.length := by rw [hM2, K.nt_, D.ll_]
  have ln2 : A .len (E takes) = M2 := by rw [D.len, hM2]
  dsimp only [slE]
  rw [show l.map e1 = E l from hE l, show takes.map e1 = E takes from hE takes]
  apply wpV_seq; refine wpV_ofH (by ((try (conv => lhs; cbv)); (exact rfl))) ?_
  apply wpV_seq; refine wpV_ofH (by ((try (conv => lhs; cbv)); (repeat ((first | (rewrite [k37])); (try (conv => lhs; cbv)))); (exact rfl))) ?_
  apply wpV_seq; refine wpV_ofH (by ((try (conv => lhs; cbv)); (exact rfl))) ?_
  apply wpV_seq; apply wpV_seq; refine wpV_ofH (by ((try (conv => lhs; cbv)); (repeat ((first | (rewrite [ln])); (try (conv => lhs; cbv)))); (exact rfl))) ?_
  apply wpV_block
  refine wpV_loop l.length (fun i st => ∃ (J : Int) (m : Nat) (IN HP : List (List IV)), st = ⟨0, (u :: .one (.iv (.sl false 1 (E takes))) :: u :: u :: u :: .one (.ptr 0 0) :: .one (.slo 1 0 m) :: u :: u :: u :: u :: u :: u :: u :: u :: u :: u :: .one (.iv (.sl false 1 (E l))) :: i64 M :: i64 J :: u :: u :: u :: u :: u :: u :: u :: u :: u :: u :: u :: u :: u :: u :: u :: u :: u :: u :: u :: u :: u :: u :: u :: u :: u :: u :: u :: u :: u :: u :: u :: u :: u :: u :: u :: u :: u :: u :: u :: u :: u :: u :: u :: u :: u :: u :: u :: u :: u :: u :: u :: u :: u :: u :: u :: u :: u :: u :: u :: u :: u :: u :: u :: u :: u :: u :: u :: u :: u :: u :: u :: u :: u :: u :: u :: u :: u :: u :: u :: u :: u :: u :: u :: u :: u :: u :: u :: u :: []), [.var false [.slo 2 0 m, .iv (.fn 12)], .arr false false 1 IN, .arr false false 1 HP]⟩ ∧ J = i ∧ ∃ (inl zi c : List Int) (zs : List (List IV)), IN = eN (inl ++ zi) ∧ HP = c.map e1 ++ zs ∧ m = inl.length ∧ Heap ltB c ∧ c.Perm inl ∧ (∀ y, y ∈ inl → inR y) ∧ m ≤ i ∧ m ≤ 200) (by omega) (by ((try (conv => lhs; cbv)); (try (with_reducible rfl)))) ⟨0, 0, [], [], rfl, rfl, [], [], [], [], rfl, rfl, rfl, fun k h => by simp at h, List.Perm.refl _, fun y h => by simp at h, by omega, by omega⟩ ?_
  rintro i hi st ⟨J, m, IN, HP, rfl, hJ, inl, zi, c, zs, hIN, hHP, hm, hc, hp, hir, hmi, hm200⟩
  have tailx : i ≤ l.length → True := fun _ => trivial
  by_cases him : i < l.length
  · have g := D.get (l := l) (J := J) (by omega)
    have hxin : inR (ix l J) := by
      rw [D.ix_, hJ, Int.toNat_natCast, List.getD_eq_getElem?_getD, List.getElem?_eq_getElem him]
      exact hin _ (List.getElem_mem him)
    generalize ix l J = x at *
    by_cases h200 : i < 200
    · have hcl : c.length = m := by rw [hm]; exact hp.length_eq
      have hcin : ∀ y, y ∈ c → inR y := fun y hy => hir y (hp.mem_iff.1 hy)
      obtain ⟨r, ⟨c', zs', g', hc', hp', rfl⟩, k38⟩ := p38 c zs x hc (by omega) hcin hxin
      have k38 := lift (k38 n (by omega))
      obtain ⟨HP1, hHP1⟩ : ∃ e, e = c'.map e1 ++ zs' := ⟨_, rfl⟩
      rw [← hcall, ← hHP, hcl, ← hHP1] at k38
      obtain ⟨t, ap, hl⟩ := apoN hA inl zi x hm (by omega)
      obtain ⟨IN1, hIN1⟩ : ∃ e, e = eN ((inl ++ [x]) ++ zi.drop 1) := ⟨_, rfl⟩
      rw [← hIN, ← hIN1] at ap
      rw [← hIN1] at hl
      have hadd : A .addN m (A .ln [[IV.int .i64 x]]) = m + 1 := by rw [hA]; rfl
      have hLl : m + 1 = (inl ++ [x]).length := by rw [List.length_append, hm]; rfl
      have hp1 : c'.Perm (inl ++ [x]) := hp'.trans ((hp.cons x).trans (List.perm_append_singleton x inl).symm)
      have hir1 : ∀ y, y ∈ inl ++ [x] → inR y := fun y hy => by
        rcases List.mem_append.1 hy with h | h
        · exact hir y h
        · rw [List.mem_singleton] at h; subst h; exact hxin
      have hc'l : c'.length = m + 1 := by rw [hLl]; exact hp1.length_eq
      have h0 : 0 < c'.length := by omega
      obtain ⟨r, ⟨c2, zs2, hc2, hp2, rfl⟩, k39⟩ := p39 c' zs' hc' h0 (by omega) (fun y hy => hir1 y (hp1.mem_iff.1 hy))
      have k39 := lift (k39 n (by omega))
      obtain ⟨HP2, hHP2⟩ : ∃ e, e = c2.map e1 ++ zs2 := ⟨_, rfl⟩
      rw [← hcall, ← hHP1, hc'l, ← hHP2, Nat.add_sub_cancel] at k39
      have hmn := hmin hc' h0
      have hyL : c'[0] ∈ inl ++ [x] := hp1.mem_iff.1 (List.getElem_mem h0)
      generalize hy : c'[0] = y at *
      obtain ⟨L, hL⟩ : ∃ L, L = inl ++ [x] := ⟨_, rfl⟩
      rw [← hL] at hIN1 hLl hp1 hir1 hyL
      obtain ⟨nn, hnn, k9⟩ := p9 false L (zi.drop 1) (by omega) hir1
      have k9 := lift (k9 n (by omega))
      rw [← hcall, ← hnn, show (L ++ zi.drop 1).map e1 = IN1 from hIN1.symm, ← hLl] at k9
      have hsp := srt_all L
      have hsl : (srt L 10).length = m + 1 := by rw [hLl]; exact hsp.length_eq
      have hs0 : (srt L 10)[0]'(by omega) ∈ L := hsp.mem_iff.1 (List.getElem_mem (by omega))
      have g0 : A .getN ((srt L 10).map e1) 0 = some (e1 ((srt L 10)[0]'(by omega))) := by
        have := getNR hA (c := srt L 10) (zs := []) (i := 0) (by omega)
        rwa [List.append_nil] at this
      have hlt : ltB ((srt L 10)[0]'(by omega)) y = false := by
        have := hmn _ (hp1.mem_iff.2 hs0)
        simp only [ltB, decide_eq_false_iff_not]; omega
      have k12 := lift (pL (hir1 _ hs0) (hir1 _ hyL) n (by omega))
      rw [← hcall, hlt] at k12
      rw [hsl] at k9
      have at0 : A .at_ 0 (m + 1) = some 0 := atR hA (x := 0) (i := 0) rfl (by omega)
      generalize (srt L 10)[0]'(by omega) = s0 at *
      generalize (srt L 10).map e1 = se at *
      dsimp only [e1] at g0
      obtain ⟨a, b, hab0, hna⟩ := List.eq_append_cons_of_mem hyL
      have hLab : L = a ++ [y] ++ b := by rw [hab0]; simp
      have k41 := fun f => lift (q41 L y f (by omega) n (by omega))
      simp only [← hcall] at k41
      have hix : idxN y L 0 = ((a.length : Nat) : Int) := by rw [hab0, idxN_split hna, Nat.zero_add]
      rw [hix] at k41
      have k42 := lift (q42 hLab (zi.drop 1) (by omega) false n (by omega))
      have hab : m = (a ++ b).length := by
        have : L.length = a.length + 1 + b.length := by rw [hLab]; simp only [List.length_append, List.length_singleton]
        rw [List.length_append]; omega
      obtain ⟨IN2, hIN2⟩ : ∃ e, e = eN ((a ++ b) ++ 0 :: zi.drop 1) := ⟨_, rfl⟩
      rw [← hcall, ← hIN1, ← hLl, ← hab, ← hIN2] at k42
      have hal : a.length ≤ m := by rw [hab, List.length_append]; omega
      have hP1 : A .ar .add .i64 ((a.length : Nat) : Int) 1 = ((a.length + 1 : Nat) : Int) := by rw [hA, add_real (by constructor <;> omega)]; omega
      have hp3 : c2.Perm (a ++ b) := by
        have h1 : (y :: c2).Perm (y :: (a ++ b)) := hp2.trans (hp1.trans (by rw [hab0]; exact List.perm_middle))
        exact List.Perm.cons_inv h1
      have hir3 : ∀ z, z ∈ a ++ b → inR z := fun z hz => hir1 z (by
        rw [hab0]
        rcases List.mem_append.1 hz with h | h
        · exact List.mem_append_left _ h
        · exact List.mem_append_right _ (List.mem_cons_of_mem _ h))
      have sL : A .seg IN1 0 (m + 1) = eN L := by rw [hIN1]; exact segN hA L (zi.drop 1) hLl
      generalize ((a.length + 1 : Nat) : Int) = P1 at *
      have hP0 : (0 : Int) ≤ ((a.length : Nat) : Int) := by omega
      generalize ((a.length : Nat) : Int) = P at *
      generalize eN L = eL at *
      generalize hm1 : m + 1 = m1 at *
      dsimp only [hbk] at k38 k39
      by_cases hT : i < takes.length
      · have gT := D.get (l := takes) (J := J) (by omega)
        generalize ix takes J = tv at *
        obtain ⟨rr, hrr⟩ : ∃ rr, A .ar .and .i64 tv 1 = rr := ⟨_, rfl⟩
        by_cases hr1 : rr = 1
        · subst hr1
          cases t with
          | true =>
            have l1 := hl rfl
            cases g'
            all_goals
              refine wpV_ofH (by ((try (conv => lhs; cbv)); (repeat ((first | (rewrite [g]) | (rewrite [k38]) | (rewrite [ap]) | (rewrite [l1]) | (rewrite [ln2]) | (rewrite [gT]) | (rewrite [hrr]) | (rewrite [k39]) | (rewrite [sL]) | (rewrite [k9]) | (rewrite [at0]) | (rewrite [g0]) | (rewrite [k12]) | (rewrite [k41]) | (rewrite [hP1]) | (rewrite [k42]) | (rewrite [K.add]; rotate_left; focus ((try simp only [K.df, D.df, true_and, and_true]) <;> omega)) | (rewrite [K.ltT]; rotate_left; focus ((try simp only [K.df, D.df, true_and, and_true]) <;> omega)) | (rewrite [K.eqT]; rotate_left; focus ((try simp only [K.df, D.df, true_and, and_true]) <;> omega)) | (rewrite [K.ltF]; rotate_left; focus ((try simp only [K.df, D.df, true_and, and_true]) <;> omega)) | (rewrite [K.geF]; rotate_left; focus ((try simp only [K.df, D.df, true_and, and_true]) <;> omega))); (try (conv => lhs; cbv)))); (exact rfl))) ?_
              refine headQ_ofH (by ((try (conv => lhs; cbv)); (exact rfl))) ?_
              refine ⟨him, _, _, _, _, rfl, ?_, a ++ b, 0 :: zi.drop 1, c2, zs2, hIN2, hHP2, hab, hc2, hp3, hir3, by omega, by omega⟩
              rw [K.pl_]; omega
          | false =>
            cases g'
            all_goals
              refine wpV_ofH (by ((try (conv => lhs; cbv)); (repeat ((first | (rewrite [g]) | (rewrite [k38]) | (rewrite [ap]) | (rewrite [hadd]) | (rewrite [ln2]) | (rewrite [gT]) | (rewrite [hrr]) | (rewrite [k39]) | (rewrite [sL]) | (rewrite [k9]) | (rewrite [at0]) | (rewrite [g0]) | (rewrite [k12]) | (rewrite [k41]) | (rewrite [hP1]) | (rewrite [k42]) | (rewrite [K.add]; rotate_left; focus ((try simp only [K.df, D.df, true_and, and_true]) <;> omega)) | (rewrite [K.ltT]; rotate_left; focus ((try simp only [K.df, D.df, true_and, and_true]) <;> omega)) | (rewrite [K.eqT]; rotate_left; focus ((try simp only [K.df, D.df, true_and, and_true]) <;> omega)) | (rewrite [K.ltF]; rotate_left; focus ((try simp only [K.df, D.df, true_and, and_true]) <;> omega)) | (rewrite [K.geF]; rotate_left; focus ((try simp only [K.df, D.df, true_and, and_true]) <;> omega))); (try (conv => lhs; cbv)))); (exact rfl))) ?_
              refine headQ_ofH (by ((try (conv => lhs; cbv)); (exact rfl))) ?_
              refine ⟨him, _, _, _, _, rfl, ?_, a ++ b, 0 :: zi.drop 1, c2, zs2, hIN2, hHP2, hab, hc2, hp3, hir3, by omega, by omega⟩
              rw [K.pl_]; omega
        · cases t with
          | true =>
            have l1 := hl rfl
            cases g'
            all_goals
              refine wpV_ofH (by ((try (conv => lhs; cbv)); (repeat ((first | (rewrite [g]) | (rewrite [k38]) | (rewrite [ap]) | (rewrite [l1]) | (rewrite [ln2]) | (rewrite [gT]) | (rewrite [hrr]) | (rewrite [K.add]; rotate_left; focus ((try simp only [K.df, D.df, true_and, and_true]) <;> omega)) | (rewrite [K.ltT]; rotate_left; focus ((try simp only [K.df, D.df, true_and, and_true]) <;> omega)) | (rewrite [K.geF]; rotate_left; focus ((try simp only [K.df, D.df, true_and, and_true]) <;> omega)) | (rewrite [K.eqF]; rotate_left; focus ((try simp only [K.df, D.df, true_and, and_true]) <;> omega))); (try (conv => lhs; cbv)))); (exact rfl))) ?_
              refine headQ_ofH (by ((try (conv => lhs; cbv)); (exact rfl))) ?_
              refine ⟨him, _, _, _, _, rfl, ?_, L, zi.drop 1, c', zs', hIN1, hHP1, hLl, hc', hp1, hir1, by omega, by omega⟩
              rw [K.pl_]; omega
          | false =>
            cases g'
            all_goals
              refine wpV_ofH (by ((try (conv => lhs; cbv)); (repeat ((first | (rewrite [g]) | (rewrite [k38]) | (rewrite [ap]) | (rewrite [hadd]) | (rewrite [ln2]) | (rewrite [gT]) | (rewrite [hrr]) | (rewrite [K.add]; rotate_left; focus ((try simp only [K.df, D.df, true_and, and_true]) <;> omega)) | (rewrite [K.ltT]; rotate_left; focus ((try simp only [K.df, D.df, true_and, and_true]) <;> omega)) | (rewrite [K.geF]; rotate_left; focus ((try simp only [K.df, D.df, true_and, and_true]) <;> omega)) | (rewrite [K.eqF]; rotate_left; focus ((try simp only [K.df, D.df, true_and, and_true]) <;> omega))); (try (conv => lhs; cbv)))); (exact rfl))) ?_
              refine headQ_ofH (by ((try (conv => lhs; cbv)); (exact rfl))) ?_
              refine ⟨him, _, _, _, _, rfl, ?_, L, zi.drop 1, c', zs', hIN1, hHP1, hLl, hc', hp1, hir1, by omega, by omega⟩
              rw [K.pl_]; omega
      · cases t with
        | true =>
          have l1 := hl rfl
          cases g'
          all_goals
            refine wpV_ofH (by ((try (conv => lhs; cbv)); (repeat ((first | (rewrite [g]) | (rewrite [k38]) | (rewrite [ap]) | (rewrite [l1]) | (rewrite [ln2]) | (rewrite [K.add]; rotate_left; focus ((try simp only [K.df, D.df, true_and, and_true]) <;> omega)) | (rewrite [K.ltT]; rotate_left; focus ((try simp only [K.df, D.df, true_and, and_true]) <;> omega)) | (rewrite [K.ltF]; rotate_left; focus ((try simp only [K.df, D.df, true_and, and_true]) <;> omega)) | (rewrite [K.geF]; rotate_left; focus ((try simp only [K.df, D.df, true_and, and_true]) <;> omega))); (try (conv => lhs; cbv)))); (exact rfl))) ?_
            refine headQ_ofH (by ((try (conv => lhs; cbv)); (exact rfl))) ?_
            refine ⟨him, _, _, _, _, rfl, ?_, L, zi.drop 1, c', zs', hIN1, hHP1, hLl, hc', hp1, hir1, by omega, by omega⟩
            rw [K.pl_]; omega
        | false =>
          cases g'
          all_goals
            refine wpV_ofH (by ((try (conv => lhs; cbv)); (repeat ((first | (rewrite [g]) | (rewrite [k38]) | (rewrite [ap]) | (rewrite [hadd]) | (rewrite [ln2]) | (rewrite [K.add]; rotate_left; focus ((try simp only [K.df, D.df, true_and, and_true]) <;> omega)) | (rewrite [K.ltT]; rotate_left; focus ((try simp only [K.df, D.df, true_and, and_true]) <;> omega)) | (rewrite [K.ltF]; rotate_left; focus ((try simp only [K.df, D.df, true_and, and_true]) <;> omega)) | (rewrite [K.geF]; rotate_left; focus ((try simp only [K.df, D.df, true_and, and_true]) <;> omega))); (try (conv => lhs; cbv)))); (exact rfl))) ?_
            refine headQ_ofH (by ((try (conv => lhs; cbv)); (exact rfl))) ?_
            refine ⟨him, _, _, _, _, rfl, ?_, L, zi.drop 1, c', zs', hIN1, hHP1, hLl, hc', hp1, hir1, by omega, by omega⟩
            rw [K.pl_]; omega
    · refine wpV_ofH (by ((try (conv => lhs; cbv)); (repeat ((first | (rewrite [g]) | (rewrite [K.ltT]; rotate_left; focus ((try simp only [K.df, D.df, true_and, and_true]) <;> omega)) | (rewrite [K.geT]; rotate_left; focus ((try simp only [K.df, D.df, true_and, and_true]) <;> omega))); (try (conv => lhs; cbv)))); (exact rfl))) ?_
      show wpV _ _ _ _ _ _
      apply wpV_seq; refine wpV_ofH (by ((try (conv => lhs; cbv)); (exact rfl))) ?_
      apply wpV_seq
      refine fin inl zi c zs hc hp hir (by omega) m IN HP hm hIN hHP _ ?_
      ((try (conv => lhs; cbv)); (try (with_reducible rfl)))
  · obtain rfl : i = l.length := by omega
    refine wpV_ofH (by ((try (conv => lhs; cbv)); (repeat ((first | (rewrite [K.ltF]; rotate_left; focus ((try simp only [K.df, D.df, true_and, and_true]) <;> omega))); (try (conv => lhs; cbv)))); (exact rfl))) ?_
    show wpV _ _ _ _ _ _
    apply wpV_seq; refine wpV_ofH (by ((try (conv => lhs; cbv)); (exact rfl))) ?_
    apply wpV_seq
    refine fin inl zi c zs hc hp hir (by omega) m IN HP hm hIN hHP _ ?_
    ((try (conv => lhs; cbv)); (try (with_reducible rfl)))
def iSh : Sh := .int .i64
theorem ty_ints {xs : List IV} (h : TyI (.sl iSh 8) xs) : ∃ l : List Int, xs = [.sl false 1 (l.map e1)] ∧ l.length * 8 ≤ reachBytes ∧ ∀ y, y ∈ l → inR y := by
  obtain ⟨es, rfl, he, hes⟩ := h
  have : ∃ l : List Int, es = l.map e1 ∧ ∀ y, y ∈ l → inR y := by
    clear he
    induction es with
    | nil => exact ⟨[], rfl, by simp⟩
    | cons c r ih =>
      obtain ⟨n, hn, hw⟩ := hes c (by simp)
      obtain ⟨l, hl, hi⟩ := ih fun z hz => hes z (by simp [hz])
      refine ⟨n :: l, by rw [hl, hn]; rfl, ?_⟩
      intro y hy
      rcases List.mem_cons.1 hy with rfl | hy
      · simp [Lit.wf, IntKind.min, IntKind.max, IntKind.signed, IntKind.bits] at hw
        unfold inR
        omega
      · exact hi y hy
  obtain ⟨l, rfl, hi⟩ := this
  exact ⟨l, rfl, by simpa using he, hi⟩
theorem lawH : ∀ xss, TyA [.sl iSh 8, .sl iSh 8] xss → ∃ n, play real (lookT tab) prJ n 8 (argsF [.sl iSh 8, .sl iSh 8] xss) [] = some (.one (.iv (.bool true)), []) := by
  intro xss h
  rcases xss with _ | ⟨a, _ | ⟨b, _ | ⟨c, r⟩⟩⟩
  · exact h.elim
  · exact h.2.elim
  · obtain ⟨h1, h2, _⟩ := h
    obtain ⟨l, rfl, hl, hi⟩ := ty_ints h1
    obtain ⟨ts, rfl, _, _⟩ := ty_ints h2
    exact law8 l ts hi
  · exact h.2.2.elim
end Go.Proofs.Ytlbmknejhmmjnaa
