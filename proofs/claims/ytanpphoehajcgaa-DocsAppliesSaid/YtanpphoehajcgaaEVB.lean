/- Dots held against each other; names and texts that may be: gone through. -/
import Derived.Test.YtanpphoehajcgaaEVA
set_option linter.unusedSimpArgs false
set_option linter.unusedVariables false
set_option maxRecDepth 100000
set_option maxHeartbeats 1000000
set_option cbv.maxSteps 10000000
namespace Go.Proofs.Ytanpphoehajcgaa
open Go GoV

def validB (d : Int × Int) : Bool := decide (0 ≤ d.1 ∧ d.1 < 64 ∧ 1 ≤ d.2 ∧ d.2 ≤ 1073741824)
theorem valid_cases (r n : Int) : (validB (r, n) = false ∧ (r < 0 ∨ (0 ≤ r ∧ 64 ≤ r) ∨ (0 ≤ r ∧ r < 64 ∧ n < 1) ∨ (0 ≤ r ∧ r < 64 ∧ 1 ≤ n ∧ 1073741824 < n))) ∨ (validB (r, n) = true ∧ 0 ≤ r ∧ r < 64 ∧ 1 ≤ n ∧ n ≤ 1073741824) := by
  by_cases h : 0 ≤ r ∧ r < 64 ∧ 1 ≤ n ∧ n ≤ 1073741824
  · exact .inr ⟨decide_eq_true h, h⟩
  · exact .inl ⟨decide_eq_false h, by omega⟩
theorem n39 (r n : Int) : Pn 1 39 [dotF (r, n)] [] (bl (validB (r, n))) [] := by
  refine playN 0 rfl rfl fun A call hA hcall => ?_
  obtain ⟨pl, mi, ml, nt, tn, ad, sb, K⟩ := kit hA
  obtain ⟨E, ix, sn, ll, cc, sg, I⟩ := lkit hA K (0 : Int) (fun z => [.int .i64 z]) 8
  rcases valid_cases r n with ⟨h, h1 | h1 | h1 | h1⟩ | ⟨h, h1⟩
  all_goals
    rw [h]
    refine wpV_ofH (by ((try (conv => lhs; cbv)); (repeat ((first | (rewrite [K.ltT]; rotate_left; focus ((try simp only [K.df, I.df, true_and, and_true]) <;> omega)) | (rewrite [K.leT]; rotate_left; focus ((try simp only [K.df, I.df, true_and, and_true]) <;> omega)) | (rewrite [K.geT]; rotate_left; focus ((try simp only [K.df, I.df, true_and, and_true]) <;> omega)) | (rewrite [K.ltF]; rotate_left; focus ((try simp only [K.df, I.df, true_and, and_true]) <;> omega)) | (rewrite [K.leF]; rotate_left; focus ((try simp only [K.df, I.df, true_and, and_true]) <;> omega)) | (rewrite [K.geF]; rotate_left; focus ((try simp only [K.df, I.df, true_and, and_true]) <;> omega))); (try (conv => lhs; cbv)))); (exact rfl))) ?_
    (show finV _ _ _ = some _; ((try (conv => lhs; cbv)); (try (with_reducible rfl))); (try rfl))
theorem n41 (r n : Int) : Pn 1 41 [dotF (r, n)] [] (bl (validB (r, n))) [] := by
  refine playN 0 rfl rfl fun A call hA hcall => ?_
  obtain ⟨pl, mi, ml, nt, tn, ad, sb, K⟩ := kit hA
  obtain ⟨E, ix, sn, ll, cc, sg, I⟩ := lkit hA K (0 : Int) (fun z => [.int .i64 z]) 8
  rcases valid_cases r n with ⟨h, h1 | h1 | h1 | h1⟩ | ⟨h, h1⟩
  all_goals
    rw [h]
    refine wpV_ofH (by ((try (conv => lhs; cbv)); (repeat ((first | (rewrite [K.leT]; rotate_left; focus ((try simp only [K.df, I.df, true_and, and_true]) <;> omega)) | (rewrite [K.geT]; rotate_left; focus ((try simp only [K.df, I.df, true_and, and_true]) <;> omega)) | (rewrite [K.leF]; rotate_left; focus ((try simp only [K.df, I.df, true_and, and_true]) <;> omega)) | (rewrite [K.geF]; rotate_left; focus ((try simp only [K.df, I.df, true_and, and_true]) <;> omega))); (try (conv => lhs; cbv)))); (exact rfl))) ?_
    (show finV _ _ _ = some _; ((try (conv => lhs; cbv)); (try (with_reducible rfl))); (try rfl))
def ltD (a b : Int × Int) : Bool := decide (a.1 < b.1 ∨ a.1 = b.1 ∧ a.2 < b.2)
def cmpI (x y : Int) : Int := if x < y then -1 else if y < x then 1 else 0
def cmpN (a b : Int × Int) : Int := if cmpI a.1 b.1 = 0 then cmpI a.2 b.2 else cmpI a.1 b.1
theorem cmpI_cases (x y : Int) : (cmpI x y = -1 ∧ x < y) ∨ (cmpI x y = 0 ∧ x = y) ∨ (cmpI x y = 1 ∧ y < x) := by
  unfold cmpI; repeat' split
  all_goals omega
theorem cmpN_lt (a b : Int × Int) : cmpN a b < 0 ↔ ltD a b = true := by
  simp only [ltD, decide_eq_true_eq, cmpN]
  rcases cmpI_cases a.1 b.1 with ⟨h, h1⟩ | ⟨h, h1⟩ | ⟨h, h1⟩ <;> rcases cmpI_cases a.2 b.2 with ⟨k, k1⟩ | ⟨k, k1⟩ | ⟨k, k1⟩ <;> rw [h, k] <;> simp <;> omega
theorem n42 (a b c d : Int) : Pn 1 42 [dotF (a, b), dotF (c, d)] [] (bl (ltD (a, b) (c, d))) [] := by
  refine playN 0 rfl rfl fun A call hA hcall => ?_
  obtain ⟨pl, mi, ml, nt, tn, ad, sb, K⟩ := kit hA
  obtain ⟨E, ix, sn, ll, cc, sg, I⟩ := lkit hA K (0 : Int) (fun z => [.int .i64 z]) 8
  by_cases h1 : a < c
  · rw [show ltD (a, b) (c, d) = true from decide_eq_true (.inl h1)]
    refine wpV_ofH (by ((try (conv => lhs; cbv)); (repeat ((first | (rewrite [K.ltT]; rotate_left; focus ((try simp only [K.df, I.df, true_and, and_true]) <;> omega))); (try (conv => lhs; cbv)))); (exact rfl))) ?_
    (show finV _ _ _ = some _; ((try (conv => lhs; cbv)); (try (with_reducible rfl))); (try rfl))
  · by_cases h2 : a = c
    · by_cases h3 : b < d
      · rw [show ltD (a, b) (c, d) = true from decide_eq_true (.inr ⟨h2, h3⟩)]
        refine wpV_ofH (by ((try (conv => lhs; cbv)); (repeat ((first | (rewrite [K.ltT]; rotate_left; focus ((try simp only [K.df, I.df, true_and, and_true]) <;> omega)) | (rewrite [K.eqT]; rotate_left; focus ((try simp only [K.df, I.df, true_and, and_true]) <;> omega)) | (rewrite [K.ltF]; rotate_left; focus ((try simp only [K.df, I.df, true_and, and_true]) <;> omega))); (try (conv => lhs; cbv)))); (exact rfl))) ?_
        (show finV _ _ _ = some _; ((try (conv => lhs; cbv)); (try (with_reducible rfl))); (try rfl))
      · rw [show ltD (a, b) (c, d) = false from decide_eq_false (by dsimp only; omega)]
        refine wpV_ofH (by ((try (conv => lhs; cbv)); (repeat ((first | (rewrite [K.eqT]; rotate_left; focus ((try simp only [K.df, I.df, true_and, and_true]) <;> omega)) | (rewrite [K.ltF]; rotate_left; focus ((try simp only [K.df, I.df, true_and, and_true]) <;> omega))); (try (conv => lhs; cbv)))); (exact rfl))) ?_
        (show finV _ _ _ = some _; ((try (conv => lhs; cbv)); (try (with_reducible rfl))); (try rfl))
    · rw [show ltD (a, b) (c, d) = false from decide_eq_false (by dsimp only; omega)]
      refine wpV_ofH (by ((try (conv => lhs; cbv)); (repeat ((first | (rewrite [K.ltF]; rotate_left; focus ((try simp only [K.df, I.df, true_and, and_true]) <;> omega)) | (rewrite [K.eqF]; rotate_left; focus ((try simp only [K.df, I.df, true_and, and_true]) <;> omega))); (try (conv => lhs; cbv)))); (exact rfl))) ?_
      (show finV _ _ _ = some _; ((try (conv => lhs; cbv)); (try (with_reducible rfl))); (try rfl))
theorem n115 (x : Int) : Pn 1 115 [i64 x] [] (bl false) [] := by
  refine playN 0 rfl rfl fun A call hA hcall => ?_
  obtain ⟨pl, mi, ml, nt, tn, ad, sb, K⟩ := kit hA
  obtain ⟨E, ix, sn, ll, cc, sg, I⟩ := lkit hA K (0 : Int) (fun z => [.int .i64 z]) 8
  refine wpV_ofH (by ((try (conv => lhs; cbv)); (repeat ((first | (rewrite [K.neF]; rotate_left; focus ((try simp only [K.df, I.df, true_and, and_true]) <;> omega))); (try (conv => lhs; cbv)))); (exact rfl))) ?_
  (show finV _ _ _ = some _; ((try (conv => lhs; cbv)); (try (with_reducible rfl))); (try rfl))
theorem n91 (x y : Int) : Pn 2 91 [i64 x, i64 y] [] (i64 (cmpI x y)) [] := by
  refine playN 1 rfl rfl fun A call hA hcall => ?_
  obtain ⟨pl, mi, ml, nt, tn, ad, sb, K⟩ := kit hA
  obtain ⟨E, ix, sn, ll, cc, sg, I⟩ := lkit hA K (0 : Int) (fun z => [.int .i64 z]) 8
  have k1 := n115 x 1 (by omega)
  have k2 := n115 y 1 (by omega)
  rw [← hcall] at k1 k2
  rcases cmpI_cases x y with ⟨h, h1⟩ | ⟨h, h1⟩ | ⟨h, h1⟩
  all_goals
    rw [h]
    refine wpV_ofH (by ((try (conv => lhs; cbv)); (repeat ((first | (rewrite [k1]) | (rewrite [k2]) | (rewrite [K.ltT]; rotate_left; focus ((try simp only [K.df, I.df, true_and, and_true]) <;> omega)) | (rewrite [K.gtT]; rotate_left; focus ((try simp only [K.df, I.df, true_and, and_true]) <;> omega)) | (rewrite [K.ltF]; rotate_left; focus ((try simp only [K.df, I.df, true_and, and_true]) <;> omega)) | (rewrite [K.gtF]; rotate_left; focus ((try simp only [K.df, I.df, true_and, and_true]) <;> omega))); (try (conv => lhs; cbv)))); (exact rfl))) ?_
    (show finV _ _ _ = some _; ((try (conv => lhs; cbv)); (try (with_reducible rfl))); (try rfl))
def orL : List Int → Int
  | [] => 0
  | x :: l => if x = 0 then orL l else x
theorem n89 (l : List Int) (t : Bool) (hl : l.length ≤ 1000) : Pn 1002 89 [.one (.iv (.sl t 1 (intsI l)))] [] (i64 (orL l)) [] := by
  refine playN 1001 rfl rfl fun A call hA hcall => ?_
  obtain ⟨pl, mi, ml, nt, tn, ad, sb, K⟩ := kit hA
  obtain ⟨E, ix, sn, ll, cc, sg, I⟩ := lkit hA K (0 : Int) (fun z => [.int .i64 z]) 8
  have hEI : intsI l = E l := by rw [I.E_]; rfl
  rw [hEI]
  obtain ⟨M, hM⟩ : ∃ M : Int, M = nt (ll l) := ⟨_, rfl⟩
  have hMl : M = l.length := by rw [hM, K.nt_, I.ll_]
  have ln : A .len (E l) = M := by rw [I.len, hM]
  generalize hR : orL l = R
  apply wpV_seq; refine wpV_ofH (by ((try (conv => lhs; cbv)); (exact rfl))) ?_
  apply wpV_seq; refine wpV_ofH (by ((try (conv => lhs; cbv)); (exact rfl))) ?_
  apply wpV_seq; apply wpV_seq; refine wpV_ofH (by ((try (conv => lhs; cbv)); (repeat ((first | (rewrite [ln])); (try (conv => lhs; cbv)))); (exact rfl))) ?_
  apply wpV_block
  refine wpV_loop l.length (fun i st => ∃ J : Int, st = ⟨0, [u, u, u, i64 0, u, u, .one (.iv (.sl t 1 (E l))), i64 M, i64 J, u, u, u, u, u, u, u, u, u], []⟩ ∧ J = i ∧ orL (l.drop i) = R) (by omega) (by ((try (conv => lhs; cbv)); (try (with_reducible rfl)))) ⟨0, rfl, rfl, hR⟩ ?_
  rintro i hi st ⟨J, rfl, hJ, hgo⟩
  by_cases him : i < l.length
  · have hd : l.drop i = ix l J :: l.drop (i + 1) := by
      rw [I.ix_, hJ, Int.toNat_natCast, List.drop_eq_getElem_cons (by omega), List.getD_eq_getElem?_getD, List.getElem?_eq_getElem (by omega)]; rfl
    rw [hd, orL] at hgo
    by_cases h0 : ix l J = 0
    · rw [if_pos h0] at hgo
      refine wpV_ofH (by ((try (conv => lhs; cbv)); (repeat ((first | (rewrite [K.add]; rotate_left; focus ((try simp only [K.df, I.df, true_and, and_true]) <;> omega)) | (rewrite [I.get]; rotate_left; focus ((try simp only [K.df, I.df, true_and, and_true]) <;> omega)) | (rewrite [K.ltT]; rotate_left; focus ((try simp only [K.df, I.df, true_and, and_true]) <;> omega)) | (rewrite [K.neF]; rotate_left; focus ((try simp only [K.df, I.df, true_and, and_true]) <;> omega))); (try (conv => lhs; cbv)))); (exact rfl))) ?_
      refine headQ_ofH (by ((try (conv => lhs; cbv)); (exact rfl))) ?_
      refine ⟨him, _, rfl, ?_, hgo⟩
      rw [K.pl_]; omega
    · rw [if_neg h0] at hgo
      rw [← hgo]
      refine wpV_ofH (by ((try (conv => lhs; cbv)); (repeat ((first | (rewrite [I.get]; rotate_left; focus ((try simp only [K.df, I.df, true_and, and_true]) <;> omega)) | (rewrite [K.ltT]; rotate_left; focus ((try simp only [K.df, I.df, true_and, and_true]) <;> omega)) | (rewrite [K.neT]; rotate_left; focus ((try simp only [K.df, I.df, true_and, and_true]) <;> omega))); (try (conv => lhs; cbv)))); (exact rfl))) ?_
      show finQ _ _ _ _ _
      (show finV _ _ _ = some _; ((try (conv => lhs; cbv)); (try (with_reducible rfl))); (try rfl))
  · obtain rfl : i = l.length := by omega
    rw [List.drop_of_length_le (Nat.le_refl _), orL] at hgo
    rw [← hgo]
    refine wpV_ofH (by ((try (conv => lhs; cbv)); (repeat ((first | (rewrite [K.ltF]; rotate_left; focus ((try simp only [K.df, I.df, true_and, and_true]) <;> omega))); (try (conv => lhs; cbv)))); (exact rfl))) ?_
    show wpV _ _ _ _ _ _
    refine wpV_ofH (by ((try (conv => lhs; cbv)); (exact rfl))) ?_
    (show finV _ _ _ = some _; ((try (conv => lhs; cbv)); (try (with_reducible rfl))); (try rfl))
theorem n86 (a b c d : Int) : Pn 1003 86 [dotF (a, b), dotF (c, d)] [] (i64 (cmpN (a, b) (c, d))) [] := by
  refine playN 1002 rfl rfl fun A call hA hcall => ?_
  obtain ⟨pl, mi, ml, nt, tn, ad, sb, K⟩ := kit hA
  obtain ⟨E, ix, sn, ll, cc, sg, I⟩ := lkit hA K (0 : Int) (fun z => [.int .i64 z]) 8
  have k1 := n91 a c 1002 (by omega)
  have k2 := n91 b d 1002 (by omega)
  have k3 := n89 [cmpI a c, cmpI b d] true (by simp) 1002 (by omega)
  have e : orL [cmpI a c, cmpI b d] = cmpN (a, b) (c, d) := by
    unfold cmpN
    simp only [orL]
    split
    · split
      · rename_i h; rw [h]
      · rfl
    · rfl
  rw [e, ← hcall] at k3
  rw [← hcall] at k1 k2
  simp only [intsI, List.map_cons, List.map_nil] at k3
  dsimp only [dotF]
  generalize cmpI a c = x at *
  generalize cmpI b d = y at *
  generalize cmpN (a, b) (c, d) = w at *
  refine wpV_ofH (by ((try (conv => lhs; cbv)); (repeat ((first | (rewrite [k1]) | (rewrite [k2]) | (rewrite [k3])); (try (conv => lhs; cbv)))); (exact rfl))) ?_
  (show finV _ _ _ = some _; ((try (conv => lhs; cbv)); (try (with_reducible rfl))); (try rfl))
/-! ### Names -/

def okc (b : Nat) : Bool := decide (97 ≤ b ∧ b ≤ 122 ∨ 48 ≤ b ∧ b ≤ 57 ∨ b = 45)
def nameB (s : ByteArray) : Bool := decide (1 ≤ s.size) && (decide (s.size ≤ 12) && (sbl s).all okc)
theorem size_0 (s : ByteArray) : s = ⟨#[]⟩ ↔ s.size = 0 := by
  constructor
  · intro h; rw [h]; rfl
  · intro h
    cases s with
    | mk d =>
      have : d.size = 0 := h
      rw [Array.eq_empty_of_size_eq_zero this]
theorem scE {A : Ar} (hA : A = real) (s : ByteArray) : A .scmp .eql s ⟨#[]⟩ = decide (s.size = 0) := by
  rw [hA]
  show (s.toList == (⟨#[]⟩ : ByteArray).toList) = _
  rw [Bool.eq_iff_iff, Go.Lib.bytes_beq_iff, decide_eq_true_eq]
  exact size_0 s
theorem scN {A : Ar} (hA : A = real) (s : ByteArray) : A .scmp .neq s ⟨#[]⟩ = decide (s.size ≠ 0) := by
  have h : (s.toList == (⟨#[]⟩ : ByteArray).toList) = decide (s.size = 0) := scE (A := real) rfl s
  rw [hA]
  show (!(s.toList == (⟨#[]⟩ : ByteArray).toList)) = _
  rw [h]
  simp
theorem n11 (s : ByteArray) (hs : s.size ≤ 1000000000000000) : Pn 14 11 [.one (.iv (.str s))] [] (bl (nameB s)) [] := by
  refine playN 13 rfl rfl fun A call hA hcall => ?_
  obtain ⟨pl, mi, ml, nt, tn, ad, sb, K⟩ := kit hA
  obtain ⟨E, ix, sn, ll, cc, sg, B⟩ := lkit hA K (0 : Nat) (fun b => [.int .u8 (nt b)]) 1
  have hE : ∀ l, by8 l = E l := fun l => by rw [B.E_]; exact (by8E K.nt_ l).symm
  have hsl := sbl_len s
  have sb1 : A .s2b s = E (sbl s) := by rw [hA, s2b_by8, hE]
  obtain ⟨L, hL⟩ : ∃ L : Int, L = s.size := ⟨_, rfl⟩
  have l1 : A .slen s = L := by rw [hA, real_slen, hL]
  have se := scE hA s
  obtain ⟨q, hq⟩ : ∃ q, q = decide (s.size = 0) := ⟨_, rfl⟩
  rw [← hq] at se
  (conv at se => lhs; arg 4; cbv)
  by_cases h0 : s.size = 0
  · have : q = true := by rw [hq]; exact decide_eq_true h0
    subst this
    rw [show nameB s = false by unfold nameB; rw [decide_eq_false (by omega : ¬ 1 ≤ s.size)]; rfl]
    refine wpV_ofH (by ((try (conv => lhs; cbv)); (repeat ((first | (rewrite [se])); (try (conv => lhs; cbv)))); (exact rfl))) ?_
    (show finV _ _ _ = some _; ((try (conv => lhs; cbv)); (try (with_reducible rfl))); (try rfl))
  · have : q = false := by rw [hq]; exact decide_eq_false h0
    subst this
    by_cases h1 : 12 < s.size
    · rw [show nameB s = false by unfold nameB; rw [decide_eq_false (by omega : ¬ s.size ≤ 12)]; simp]
      refine wpV_ofH (by ((try (conv => lhs; cbv)); (repeat ((first | (rewrite [se]) | (rewrite [l1]) | (rewrite [K.gtT]; rotate_left; focus ((try simp only [K.df, B.df, true_and, and_true]) <;> omega))); (try (conv => lhs; cbv)))); (exact rfl))) ?_
      (show finV _ _ _ = some _; ((try (conv => lhs; cbv)); (try (with_reducible rfl))); (try rfl))
    · have hnb : nameB s = (sbl s).all okc := by
        unfold nameB
        rw [decide_eq_true (by omega : 1 ≤ s.size), decide_eq_true (by omega : s.size ≤ 12)]; rfl
      have ln : A .len (E (sbl s)) = L := by rw [B.len, K.nt_, B.ll_, hsl, hL]
      generalize hR : nameB s = R at *
      generalize sbl s = w at *
      apply wpV_seq; refine wpV_ofH (by ((try (conv => lhs; cbv)); (exact rfl))) ?_
      apply wpV_seq; refine wpV_ofH (by ((try (conv => lhs; cbv)); (repeat ((first | (rewrite [se]) | (rewrite [l1]) | (rewrite [K.gtF]; rotate_left; focus ((try simp only [K.df, B.df, true_and, and_true]) <;> omega))); (try (conv => lhs; cbv)))); (exact rfl))) ?_
      apply wpV_seq; apply wpV_seq; refine wpV_ofH (by ((try (conv => lhs; cbv)); (repeat ((first | (rewrite [sb1]) | (rewrite [ln])); (try (conv => lhs; cbv)))); (exact rfl))) ?_
      apply wpV_block
      refine wpV_loop w.length (fun i st => ∃ J : Int, st = ⟨0, [u, u, u, u, u, u, u, u, u, u, u, u, u, .one (.iv (.sl false 1 (E w))), i64 L, i64 J, u, u, u, u, u, u, u, u, u, u, u, u, u, u, u, u, u, u, u, u, u, u], []⟩ ∧ J = i ∧ R = (w.drop i).all okc) (by omega) (by ((try (conv => lhs; cbv)); (try (with_reducible rfl)))) ⟨0, rfl, rfl, hnb⟩ ?_
      rintro i hi st ⟨J, rfl, hJ, hgo⟩
      by_cases him : i < w.length
      · have hd : w.drop i = ix w J :: w.drop (i + 1) := by
          rw [B.ix_, hJ, Int.toNat_natCast, List.drop_eq_getElem_cons (by omega), List.getD_eq_getElem?_getD, List.getElem?_eq_getElem (by omega)]; rfl
        rw [hd, List.all_cons] at hgo
        have hg := B.get (l := w) (J := J) (by omega)
        generalize ix w J = b at *
        have cases : (okc b = true ∧ ((97 ≤ b ∧ b ≤ 122) ∨ (48 ≤ b ∧ b ≤ 57) ∨ b = 45)) ∨ (okc b = false ∧ ((b < 45) ∨ (45 < b ∧ b < 48) ∨ (57 < b ∧ b < 97) ∨ 122 < b)) := by
          by_cases h : 97 ≤ b ∧ b ≤ 122 ∨ 48 ≤ b ∧ b ≤ 57 ∨ b = 45
          · exact .inl ⟨decide_eq_true h, h⟩
          · exact .inr ⟨decide_eq_false h, by omega⟩
        rcases cases with ⟨h, h1 | h1 | h1⟩ | ⟨h, h1 | h1 | h1 | h1⟩
        iterate 3
          · rw [h, Bool.true_and] at hgo
            refine wpV_ofH (by ((try (conv => lhs; cbv)); (repeat ((first | (rewrite [hg]) | (rewrite [K.add]; rotate_left; focus ((try simp only [K.df, B.df, true_and, and_true]) <;> omega)) | (rewrite [K.ltT]; rotate_left; focus ((try simp only [K.df, B.df, true_and, and_true]) <;> omega)) | (rewrite [K.ltF]; rotate_left; focus ((try simp only [K.df, B.df, true_and, and_true]) <;> omega)) | (rewrite [K.gtF]; rotate_left; focus ((try simp only [K.df, B.df, true_and, and_true]) <;> omega)) | (rewrite [K.neF]; rotate_left; focus ((try simp only [K.df, B.df, true_and, and_true]) <;> omega))); (try (conv => lhs; cbv)))); (exact rfl))) ?_
            refine headQ_ofH (by ((try (conv => lhs; cbv)); (exact rfl))) ?_
            refine ⟨him, _, rfl, ?_, hgo⟩
            rw [K.pl_]; omega
        all_goals
          rw [h, Bool.false_and] at hgo
          subst hgo
          refine wpV_ofH (by ((try (conv => lhs; cbv)); (repeat ((first | (rewrite [hg]) | (rewrite [K.ltT]; rotate_left; focus ((try simp only [K.df, B.df, true_and, and_true]) <;> omega)) | (rewrite [K.gtT]; rotate_left; focus ((try simp only [K.df, B.df, true_and, and_true]) <;> omega)) | (rewrite [K.neT]; rotate_left; focus ((try simp only [K.df, B.df, true_and, and_true]) <;> omega)) | (rewrite [K.ltF]; rotate_left; focus ((try simp only [K.df, B.df, true_and, and_true]) <;> omega))); (try (conv => lhs; cbv)))); (exact rfl))) ?_
          show finQ _ _ _ _ _
          (show finV _ _ _ = some _; ((try (conv => lhs; cbv)); (try (with_reducible rfl))); (try rfl))
      · obtain rfl : i = w.length := by omega
        rw [List.drop_of_length_le (Nat.le_refl _), List.all_nil] at hgo
        subst hgo
        refine wpV_ofH (by ((try (conv => lhs; cbv)); (repeat ((first | (rewrite [K.ltF]; rotate_left; focus ((try simp only [K.df, B.df, true_and, and_true]) <;> omega))); (try (conv => lhs; cbv)))); (exact rfl))) ?_
        show wpV _ _ _ _ _ _
        refine wpV_ofH (by ((try (conv => lhs; cbv)); (exact rfl))) ?_
        (show finV _ _ _ = some _; ((try (conv => lhs; cbv)); (try (with_reducible rfl))); (try rfl))
end Go.Proofs.Ytanpphoehajcgaa
