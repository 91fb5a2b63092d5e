/- Texts and events that may be: gone through. -/
import Derived.Test.YtanpphoehajcgaaEVB
set_option linter.unusedSimpArgs false
set_option linter.unusedVariables false
set_option maxRecDepth 100000
set_option maxHeartbeats 1000000
set_option cbv.maxSteps 10000000
namespace Go.Proofs.Ytanpphoehajcgaa
open Go GoV

theorem nxt_range (s : ByteArray) (i : Nat) (hi : i < s.size) : -1 ≤ (nxt s i).1 ∧ (nxt s i).1 ≤ 1114111 ∧ 1 ≤ (nxt s i).2 ∧ (nxt s i).2 ≤ s.size - i := by
  have := nx_range (s.size - i) (by omega) (bt_range s i).1 (bt_range s (i + 1)).1 (bt_range s (i + 2)).1 (bt_range s (i + 3)).1
  unfold nxt
  omega
/-- Is a text UTF-8, from i on? -/
def valGo (s : ByteArray) : Nat → Nat → Bool
  | 0, _ => true
  | k + 1, i => if i < s.size then (if (nxt s i).1 < 0 then false else valGo s k (i + (nxt s i).2.toNat)) else true
def validS (s : ByteArray) : Bool := valGo s (s.size + 1) 0
theorem n37 (s : ByteArray) (hs : s.size ≤ 1000) : ∃ k, Pn k 37 [.one (.iv (.str s))] [] (bl (validS s)) [] := by
  obtain ⟨kk, hk⟩ := Plays.all pr_mono (T := lookT tab) (pr := fun _ => clonePr clones) (f := 84) (vs := fun i => [.one (.iv (.str s)), i64 i]) (bs := fun _ => []) (r := fun i => (tupF (nxt s i).1 (nxt s i).2, [])) (m := s.size) (fun i hi => p84 s (by omega) i hi)
  refine ⟨kk + 1002, playN (kk + 1001) rfl rfl fun A call hA hcall => ?_⟩
  obtain ⟨pl, mi, ml, nt, tn, ad, sb, K⟩ := kit hA
  obtain ⟨E, ix, sn, ll, cc, sg, D⟩ := lkit hA K ((0, 0) : Int × Int) (fun p => [.int .i64 p.1, .int .i64 p.2]) 16
  have hk := hk (kk + 1001) (by omega)
  rw [← hcall] at hk
  obtain ⟨L, hL⟩ : ∃ L : Int, L = s.size := ⟨_, rfl⟩
  have l1 : A .slen s = L := by rw [hA, real_slen, hL]
  generalize hR : validS s = R
  unfold validS at hR
  apply wpV_seq; refine wpV_ofH (by ((try (conv => lhs; cbv)); (exact rfl))) ?_
  apply wpV_seq; apply wpV_seq; refine wpV_ofH (by ((try (conv => lhs; cbv)); (exact rfl))) ?_
  apply wpV_block
  refine wpV_loop s.size (fun j st => ∃ (i : Nat) (J : Int), st = ⟨0, [.one (.iv (.str s)), u, u, i64 J, u, u, u, u, u, u, u, u, u, u, u, u, u, u, u, u, u], []⟩ ∧ J = i ∧ i ≤ s.size ∧ j ≤ i ∧ valGo s (s.size + 1 - j) i = R) (by omega) (by ((try (conv => lhs; cbv)); (try (with_reducible rfl)))) ⟨0, 0, rfl, rfl, by omega, by omega, hR⟩ ?_
  rintro j hj st ⟨i, J, rfl, hJ, hi, hji, hgo⟩
  rw [show s.size + 1 - j = (s.size - j) + 1 by omega, valGo] at hgo
  by_cases him : i < s.size
  · rw [if_pos him] at hgo
    have k1 := hk i him
    rw [← hJ] at k1
    have hr := nxt_range s i him
    dsimp only [tupF] at k1
    by_cases hn : (nxt s i).1 < 0
    · rw [if_pos hn] at hgo
      subst hgo
      generalize (nxt s i).1 = X at *
      generalize (nxt s i).2 = Y at *
      refine wpV_ofH (by ((try (conv => lhs; cbv)); (repeat ((first | (rewrite [l1]) | (rewrite [k1]) | (rewrite [K.ltT]; rotate_left; focus ((try simp only [K.df, D.df, true_and, and_true]) <;> omega))); (try (conv => lhs; cbv)))); (exact rfl))) ?_
      show finQ _ _ _ _ _
      (show finV _ _ _ = some _; ((try (conv => lhs; cbv)); (try (with_reducible rfl))); (try rfl))
    · rw [if_neg hn] at hgo
      generalize (nxt s i).1 = X at *
      generalize (nxt s i).2 = Y at *
      refine wpV_ofH (by ((try (conv => lhs; cbv)); (repeat ((first | (rewrite [l1]) | (rewrite [k1]) | (rewrite [K.add]; rotate_left; focus ((try simp only [K.df, D.df, true_and, and_true]) <;> omega)) | (rewrite [K.ltT]; rotate_left; focus ((try simp only [K.df, D.df, true_and, and_true]) <;> omega)) | (rewrite [K.ltF]; rotate_left; focus ((try simp only [K.df, D.df, true_and, and_true]) <;> omega))); (try (conv => lhs; cbv)))); (exact rfl))) ?_
      refine headQ_ofH (by ((try (conv => lhs; cbv)); (exact rfl))) ?_
      refine ⟨by omega, i + Y.toNat, _, rfl, ?_, by omega, by omega, ?_⟩
      · rw [K.pl_]; omega
      · rw [show s.size + 1 - (j + 1) = s.size - j by omega]; exact hgo
  · rw [if_neg him] at hgo
    subst hgo
    refine wpV_ofH (by ((try (conv => lhs; cbv)); (repeat ((first | (rewrite [l1]) | (rewrite [K.ltF]; rotate_left; focus ((try simp only [K.df, D.df, true_and, and_true]) <;> omega))); (try (conv => lhs; cbv)))); (exact rfl))) ?_
    show wpV _ _ _ _ _ _
    refine wpV_ofH (by ((try (conv => lhs; cbv)); (exact rfl))) ?_
    (show finV _ _ _ = some _; ((try (conv => lhs; cbv)); (try (with_reducible rfl))); (try rfl))
def textC (f : Int) (s : ByteArray) : Int := if f < 0 ∨ 4 < f ∨ f = 0 ∧ s.size ≠ 0 then 1 else if 160 < s.size then 5 else if validS s = true then 0 else 7
theorem n13 (f : Int) (s : ByteArray) : ∃ k, Pn k 13 [i64 f, .one (.iv (.str s))] [] (i64 (textC f s)) [] := by
  obtain ⟨k, hk⟩ : ∃ k, s.size ≤ 1000 → Pn k 37 [.one (.iv (.str s))] [] (bl (validS s)) [] := by
    by_cases h : s.size ≤ 1000
    · obtain ⟨k, hk⟩ := n37 s h; exact ⟨k, fun _ => hk⟩
    · exact ⟨0, fun h' => absurd h' h⟩
  refine ⟨k + 1, playN k rfl rfl fun A call hA hcall => ?_⟩
  obtain ⟨pl, mi, ml, nt, tn, ad, sb, K⟩ := kit hA
  obtain ⟨E, ix, sn, ll, cc, sg, D⟩ := lkit hA K ((0, 0) : Int × Int) (fun p => [.int .i64 p.1, .int .i64 p.2]) 16
  obtain ⟨L, hL⟩ : ∃ L : Int, L = s.size := ⟨_, rfl⟩
  have l1 : A .slen s = L := by rw [hA, real_slen, hL]
  have se := scN hA s
  obtain ⟨q, hq⟩ : ∃ q, q = decide (s.size ≠ 0) := ⟨_, rfl⟩
  rw [← hq] at se
  (conv at se => lhs; arg 4; cbv)
  unfold textC
  by_cases h1 : f < 0
  · rw [if_pos (.inl h1)]
    refine wpV_ofH (by ((try (conv => lhs; cbv)); (repeat ((first | (rewrite [K.ltT]; rotate_left; focus ((try simp only [K.df, D.df, true_and, and_true]) <;> omega))); (try (conv => lhs; cbv)))); (exact rfl))) ?_
    (show finV _ _ _ = some _; ((try (conv => lhs; cbv)); (try (with_reducible rfl))); (try rfl))
  · by_cases h2 : 4 < f
    · rw [if_pos (.inr (.inl h2))]
      refine wpV_ofH (by ((try (conv => lhs; cbv)); (repeat ((first | (rewrite [K.gtT]; rotate_left; focus ((try simp only [K.df, D.df, true_and, and_true]) <;> omega)) | (rewrite [K.ltF]; rotate_left; focus ((try simp only [K.df, D.df, true_and, and_true]) <;> omega))); (try (conv => lhs; cbv)))); (exact rfl))) ?_
      (show finV _ _ _ = some _; ((try (conv => lhs; cbv)); (try (with_reducible rfl))); (try rfl))
    · by_cases h3 : f = 0
      · by_cases h4 : s.size ≠ 0
        · rw [if_pos (.inr (.inr ⟨h3, h4⟩))]
          rw [show q = true by rw [hq]; exact decide_eq_true h4] at se
          refine wpV_ofH (by ((try (conv => lhs; cbv)); (repeat ((first | (rewrite [se]) | (rewrite [K.eqT]; rotate_left; focus ((try simp only [K.df, D.df, true_and, and_true]) <;> omega)) | (rewrite [K.ltF]; rotate_left; focus ((try simp only [K.df, D.df, true_and, and_true]) <;> omega)) | (rewrite [K.gtF]; rotate_left; focus ((try simp only [K.df, D.df, true_and, and_true]) <;> omega))); (try (conv => lhs; cbv)))); (exact rfl))) ?_
          (show finV _ _ _ = some _; ((try (conv => lhs; cbv)); (try (with_reducible rfl))); (try rfl))
        · rw [if_neg (by omega), if_neg (by omega)]
          rw [show q = false by rw [hq]; exact decide_eq_false h4] at se
          have k1 := hk (by omega) k (Nat.le_refl _)
          rw [← hcall] at k1
          cases hv : validS s with
          | true =>
            rw [hv] at k1
            rw [if_pos rfl]
            refine wpV_ofH (by ((try (conv => lhs; cbv)); (repeat ((first | (rewrite [se]) | (rewrite [l1]) | (rewrite [k1]) | (rewrite [K.eqT]; rotate_left; focus ((try simp only [K.df, D.df, true_and, and_true]) <;> omega)) | (rewrite [K.ltF]; rotate_left; focus ((try simp only [K.df, D.df, true_and, and_true]) <;> omega)) | (rewrite [K.gtF]; rotate_left; focus ((try simp only [K.df, D.df, true_and, and_true]) <;> omega))); (try (conv => lhs; cbv)))); (exact rfl))) ?_
            (show finV _ _ _ = some _; ((try (conv => lhs; cbv)); (try (with_reducible rfl))); (try rfl))
          | false =>
            rw [hv] at k1
            rw [if_neg (by decide)]
            refine wpV_ofH (by ((try (conv => lhs; cbv)); (repeat ((first | (rewrite [se]) | (rewrite [l1]) | (rewrite [k1]) | (rewrite [K.eqT]; rotate_left; focus ((try simp only [K.df, D.df, true_and, and_true]) <;> omega)) | (rewrite [K.ltF]; rotate_left; focus ((try simp only [K.df, D.df, true_and, and_true]) <;> omega)) | (rewrite [K.gtF]; rotate_left; focus ((try simp only [K.df, D.df, true_and, and_true]) <;> omega))); (try (conv => lhs; cbv)))); (exact rfl))) ?_
            (show finV _ _ _ = some _; ((try (conv => lhs; cbv)); (try (with_reducible rfl))); (try rfl))
      · rw [if_neg (by omega)]
        by_cases h5 : 160 < s.size
        · rw [if_pos h5]
          refine wpV_ofH (by ((try (conv => lhs; cbv)); (repeat ((first | (rewrite [l1]) | (rewrite [K.gtT]; rotate_left; focus ((try simp only [K.df, D.df, true_and, and_true]) <;> omega)) | (rewrite [K.ltF]; rotate_left; focus ((try simp only [K.df, D.df, true_and, and_true]) <;> omega)) | (rewrite [K.gtF]; rotate_left; focus ((try simp only [K.df, D.df, true_and, and_true]) <;> omega)) | (rewrite [K.eqF]; rotate_left; focus ((try simp only [K.df, D.df, true_and, and_true]) <;> omega))); (try (conv => lhs; cbv)))); (exact rfl))) ?_
          (show finV _ _ _ = some _; ((try (conv => lhs; cbv)); (try (with_reducible rfl))); (try rfl))
        · rw [if_neg h5]
          have k1 := hk (by omega) k (Nat.le_refl _)
          rw [← hcall] at k1
          cases hv : validS s with
          | true =>
            rw [hv] at k1
            rw [if_pos rfl]
            refine wpV_ofH (by ((try (conv => lhs; cbv)); (repeat ((first | (rewrite [l1]) | (rewrite [k1]) | (rewrite [K.ltF]; rotate_left; focus ((try simp only [K.df, D.df, true_and, and_true]) <;> omega)) | (rewrite [K.gtF]; rotate_left; focus ((try simp only [K.df, D.df, true_and, and_true]) <;> omega)) | (rewrite [K.eqF]; rotate_left; focus ((try simp only [K.df, D.df, true_and, and_true]) <;> omega))); (try (conv => lhs; cbv)))); (exact rfl))) ?_
            (show finV _ _ _ = some _; ((try (conv => lhs; cbv)); (try (with_reducible rfl))); (try rfl))
          | false =>
            rw [hv] at k1
            rw [if_neg (by decide)]
            refine wpV_ofH (by ((try (conv => lhs; cbv)); (repeat ((first | (rewrite [l1]) | (rewrite [k1]) | (rewrite [K.ltF]; rotate_left; focus ((try simp only [K.df, D.df, true_and, and_true]) <;> omega)) | (rewrite [K.gtF]; rotate_left; focus ((try simp only [K.df, D.df, true_and, and_true]) <;> omega)) | (rewrite [K.eqF]; rotate_left; focus ((try simp only [K.df, D.df, true_and, and_true]) <;> omega))); (try (conv => lhs; cbv)))); (exact rfl))) ?_
            (show finV _ _ _ = some _; ((try (conv => lhs; cbv)); (try (with_reducible rfl))); (try rfl))
/-! ### Dots that an event takes away -/
def eDs (l : List (Int × Int)) : List (List IV) := l.map fun p => [.int .i64 p.1, .int .i64 p.2]
/-- From i on: each may be, is not the event's, and stands behind the one ahead. -/
def gGo (own : Int × Int) (l : List (Int × Int)) : Nat → Nat → Bool
  | 0, _ => true
  | k + 1, i => if validB (l.getD i (0, 0)) = false ∨ l.getD i (0, 0) = own ∨ 0 < i ∧ 0 ≤ cmpN (l.getD (i - 1) (0, 0)) (l.getD i (0, 0)) then false else gGo own l k (i + 1)
def goneB (own : Int × Int) (l : List (Int × Int)) : Bool := gGo own l l.length 0 && decide (l.length ≤ 120)
theorem eqvD {A : Ar} (hA : A = real) (a b c d : Int) : A .eqv ([.int] ++ [.int]) [.int .i64 a, .int .i64 b] [.int .i64 c, .int .i64 d] = some (decide ((a, b) = (c, d))) := by
  rw [hA, real_eqv]
  unfold rEqv
  simp only [flatI, Option.bind_some, rEqL, rEqK, if_true, List.singleton_append, List.cons_append, List.nil_append, Prod.mk.injEq]
  by_cases h1 : a = c <;> by_cases h2 : b = d <;> simp [h1, h2]
theorem n40 (a b : Int) (l : List (Int × Int)) (t : Bool) (z : Nat) (hz : z = 2 ∨ z = 0 ∧ l = []) (hl : l.length ≤ 1000000000) :
    Pn (l.length + 1010) 40 [dotF (a, b), .one (.iv (.sl t z (eDs l)))] [] (bl (goneB (a, b) l)) [] := by
  refine playN (l.length + 1009) rfl rfl fun A call hA hcall => ?_
  obtain ⟨pl, mi, ml, nt, tn, ad, sb, K⟩ := kit hA
  obtain ⟨E, ix, sn, ll, cc, sg, D⟩ := lkit hA K ((0, 0) : Int × Int) (fun p => [.int .i64 p.1, .int .i64 p.2]) 16
  have hE : eDs l = E l := by rw [D.E_]; rfl
  have k39 : ∀ r n, call 39 [dotF (r, n)] [] = some (bl (validB (r, n)), []) := fun r n => by rw [hcall]; exact n39 r n _ (by omega)
  have k86 : ∀ p q r s, call 86 [dotF (p, q), dotF (r, s)] [] = some (i64 (cmpN (p, q) (r, s)), []) := fun p q r s => by rw [hcall]; exact n86 p q r s _ (by omega)
  obtain ⟨M, hM⟩ : ∃ M : Int, M = nt (ll l) := ⟨_, rfl⟩
  have hMl : M = l.length := by rw [hM, K.nt_, D.ll_]
  have ln : A .len (E l) = M := by rw [D.len, hM]
  rw [hE]
  unfold goneB
  generalize hR : gGo (a, b) l l.length 0 = R
  have fin : ∀ st, headV false [1, 2, 7, 8, 9] st = some ⟨0, [u, .one (.iv (.sl t z (E l))), .one (.ptr 0 0), u, u, u, u, .one (.iv (.sl t z (E l))), i64 M, i64 0, u, u, u, u, u, u, u, u, u, u, u, u, u, u, u, u, u, u, u, u, u, u, u, u, u, u, u, u, u, u], [.var false [.iv (.int .i64 a), .iv (.int .i64 b)]]⟩ →
      wpV A call (iterN (l.length + 1009)) (.block 0 (.loop false [1, 2, 7, 8, 9] l40_0)) st (seqQ A call (iterN (l.length + 1009)) (.seq (.region false [⟨some 37, .mov none (.t 1), [], none⟩,
    ⟨some 38, .blt .len [.t 37], [], none⟩,
    ⟨some 39, .bin .leq (.t 38) (.k (.one (.iv (.int .i64 120)))), [], none⟩,
    ⟨some 4, .mov none (.t 39), [], none⟩])
  (.ret)) (finQ A v40 (bl (R && decide (l.length ≤ 120)), []))) := by
    intro st0 hst
    apply wpV_block
    refine wpV_loop l.length (fun i st => ∃ J : Int, st = ⟨0, [u, .one (.iv (.sl t z (E l))), .one (.ptr 0 0), u, u, u, u, .one (.iv (.sl t z (E l))), i64 M, i64 J, u, u, u, u, u, u, u, u, u, u, u, u, u, u, u, u, u, u, u, u, u, u, u, u, u, u, u, u, u, u], [.var false [.iv (.int .i64 a), .iv (.int .i64 b)]]⟩ ∧ J = i ∧ gGo (a, b) l (l.length - i) i = R) (by omega) hst ⟨0, rfl, rfl, hR⟩ ?_
    rintro i hi st ⟨J, rfl, hJ, hgo⟩
    by_cases him : i < l.length
    · obtain rfl : z = 2 := by
        rcases hz with h | ⟨h, h2⟩
        · exact h
        · rw [h2] at him; simp at him
      rw [show l.length - i = (l.length - i - 1) + 1 by omega, gGo] at hgo
      have g1 := D.get (l := l) (J := J) (by omega)
      have hx : ix l J = l.getD i (0, 0) := by rw [D.ix_, hJ]; rfl
      rw [← hx] at hgo
      generalize hd : ix l J = d at *
      obtain ⟨r, n⟩ := d
      have kv := k39 r n
      have eq := eqvD hA r n a b
      (conv at eq => lhs; arg 2; cbv)
      have q1 : validB (r, n) = true ∨ validB (r, n) = false := by cases validB (r, n) <;> simp
      dsimp only [dotF] at kv g1
      rcases q1 with q1 | q1
      · rw [q1] at kv hgo
        by_cases q2 : (r, n) = (a, b)
        · rw [decide_eq_true q2] at eq
          rw [if_pos (.inr (.inl q2))] at hgo
          subst hgo
          refine wpV_ofH (by ((try (conv => lhs; cbv)); (repeat ((first | (rewrite [g1]) | (rewrite [kv]) | (rewrite [eq]) | (rewrite [K.ltT]; rotate_left; focus ((try simp only [K.df, D.df, true_and, and_true]) <;> omega))); (try (conv => lhs; cbv)))); (exact rfl))) ?_
          show finQ _ _ _ _ _
          (show finV _ _ _ = some _; ((try (conv => lhs; cbv)); (try (with_reducible rfl))); (try rfl))
        · rw [decide_eq_false q2] at eq
          by_cases hi0 : i = 0
          · rw [if_neg (by rintro (h | h | ⟨h, _⟩); cases h; exact q2 h; omega)] at hgo
            refine wpV_ofH (by ((try (conv => lhs; cbv)); (repeat ((first | (rewrite [g1]) | (rewrite [kv]) | (rewrite [eq]) | (rewrite [K.add]; rotate_left; focus ((try simp only [K.df, D.df, true_and, and_true]) <;> omega)) | (rewrite [K.ltT]; rotate_left; focus ((try simp only [K.df, D.df, true_and, and_true]) <;> omega)) | (rewrite [K.gtF]; rotate_left; focus ((try simp only [K.df, D.df, true_and, and_true]) <;> omega))); (try (conv => lhs; cbv)))); (exact rfl))) ?_
            refine headQ_ofH (by ((try (conv => lhs; cbv)); (exact rfl))) ?_
            refine ⟨him, _, rfl, ?_, by rw [show l.length - (i + 1) = l.length - i - 1 by omega]; exact hgo⟩
            rw [K.pl_]; omega
          · have g2 := D.get (l := l) (J := mi J 1) (by rw [K.mi_]; omega)
            have hx2 : ix l (mi J 1) = l.getD (i - 1) (0, 0) := by rw [D.ix_, K.mi_, show (J - 1).toNat = i - 1 by omega]
            rw [← hx2] at hgo
            generalize hd2 : ix l (mi J 1) = d2 at *
            obtain ⟨r2, n2⟩ := d2
            have kc := k86 r2 n2 r n
            dsimp only [dotF] at kc g2
            generalize hC : cmpN (r2, n2) (r, n) = C at *
            by_cases q3 : 0 ≤ C
            · rw [if_pos (.inr (.inr ⟨by omega, q3⟩))] at hgo
              subst hgo
              refine wpV_ofH (by ((try (conv => lhs; cbv)); (repeat ((first | (rewrite [g1]) | (rewrite [kv]) | (rewrite [eq]) | (rewrite [g2]) | (rewrite [kc]) | (rewrite [K.sub]; rotate_left; focus ((try simp only [K.df, D.df, true_and, and_true]) <;> omega)) | (rewrite [K.ltT]; rotate_left; focus ((try simp only [K.df, D.df, true_and, and_true]) <;> omega)) | (rewrite [K.gtT]; rotate_left; focus ((try simp only [K.df, D.df, true_and, and_true]) <;> omega)) | (rewrite [K.geT]; rotate_left; focus ((try simp only [K.df, D.df, true_and, and_true]) <;> omega))); (try (conv => lhs; cbv)))); (exact rfl))) ?_
              show finQ _ _ _ _ _
              (show finV _ _ _ = some _; ((try (conv => lhs; cbv)); (try (with_reducible rfl))); (try rfl))
            · rw [if_neg (by rintro (h | h | ⟨_, h⟩); cases h; exact q2 h; exact q3 h)] at hgo
              refine wpV_ofH (by ((try (conv => lhs; cbv)); (repeat ((first | (rewrite [g1]) | (rewrite [kv]) | (rewrite [eq]) | (rewrite [g2]) | (rewrite [kc]) | (rewrite [K.add]; rotate_left; focus ((try simp only [K.df, D.df, true_and, and_true]) <;> omega)) | (rewrite [K.sub]; rotate_left; focus ((try simp only [K.df, D.df, true_and, and_true]) <;> omega)) | (rewrite [K.ltT]; rotate_left; focus ((try simp only [K.df, D.df, true_and, and_true]) <;> omega)) | (rewrite [K.gtT]; rotate_left; focus ((try simp only [K.df, D.df, true_and, and_true]) <;> omega)) | (rewrite [K.geF]; rotate_left; focus ((try simp only [K.df, D.df, true_and, and_true]) <;> omega))); (try (conv => lhs; cbv)))); (exact rfl))) ?_
              refine headQ_ofH (by ((try (conv => lhs; cbv)); (exact rfl))) ?_
              refine ⟨him, _, rfl, ?_, by rw [show l.length - (i + 1) = l.length - i - 1 by omega]; exact hgo⟩
              rw [K.pl_]; omega
      · rw [q1] at kv hgo
        rw [if_pos (.inl rfl)] at hgo
        subst hgo
        refine wpV_ofH (by ((try (conv => lhs; cbv)); (repeat ((first | (rewrite [g1]) | (rewrite [kv]) | (rewrite [K.ltT]; rotate_left; focus ((try simp only [K.df, D.df, true_and, and_true]) <;> omega))); (try (conv => lhs; cbv)))); (exact rfl))) ?_
        show finQ _ _ _ _ _
        (show finV _ _ _ = some _; ((try (conv => lhs; cbv)); (try (with_reducible rfl))); (try rfl))
    · obtain rfl : i = l.length := by omega
      rw [Nat.sub_self, gGo] at hgo
      subst hgo
      by_cases h120 : l.length ≤ 120
      · rw [decide_eq_true h120]
        refine wpV_ofH (by ((try (conv => lhs; cbv)); (repeat ((first | (rewrite [K.ltF]; rotate_left; focus ((try simp only [K.df, D.df, true_and, and_true]) <;> omega))); (try (conv => lhs; cbv)))); (exact rfl))) ?_
        show wpV _ _ _ _ _ _
        refine wpV_ofH (by ((try (conv => lhs; cbv)); (repeat ((first | (rewrite [ln]) | (rewrite [K.leT]; rotate_left; focus ((try simp only [K.df, D.df, true_and, and_true]) <;> omega))); (try (conv => lhs; cbv)))); (exact rfl))) ?_
        (show finV _ _ _ = some _; ((try (conv => lhs; cbv)); (try (with_reducible rfl))); (try rfl))
      · rw [decide_eq_false h120]
        refine wpV_ofH (by ((try (conv => lhs; cbv)); (repeat ((first | (rewrite [K.ltF]; rotate_left; focus ((try simp only [K.df, D.df, true_and, and_true]) <;> omega))); (try (conv => lhs; cbv)))); (exact rfl))) ?_
        show wpV _ _ _ _ _ _
        refine wpV_ofH (by ((try (conv => lhs; cbv)); (repeat ((first | (rewrite [ln]) | (rewrite [K.leF]; rotate_left; focus ((try simp only [K.df, D.df, true_and, and_true]) <;> omega))); (try (conv => lhs; cbv)))); (exact rfl))) ?_
        (show finV _ _ _ = some _; ((try (conv => lhs; cbv)); (try (with_reducible rfl))); (try rfl))
  dsimp only [dotF]
  apply wpV_seq; refine wpV_ofH (by ((try (conv => lhs; cbv)); (exact rfl))) ?_
  apply wpV_seq; apply wpV_seq; refine wpV_ofH (by ((try (conv => lhs; cbv)); (repeat ((first | (rewrite [ln])); (try (conv => lhs; cbv)))); (exact rfl))) ?_
  exact fin _ (by ((try (conv => lhs; cbv)); (try (with_reducible rfl))))
end Go.Proofs.Ytanpphoehajcgaa
