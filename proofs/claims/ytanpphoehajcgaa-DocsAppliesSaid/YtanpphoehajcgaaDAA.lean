/- Writes and states, which may be: gone through. -/
import Derived.Test.YtanpphoehajcgaaEVF
set_option linter.unusedSimpArgs false
set_option linter.unusedVariables false
set_option maxRecDepth 100000
set_option maxHeartbeats 1000000
set_option cbv.maxSteps 10000000
namespace Go.Proofs.Ytanpphoehajcgaa
open Go GoV

structure Wr where
  d : Int × Int
  t : Int
  doc : ByteArray
  f : Int
  txt : ByteArray
def zeroWr : Wr := ⟨(0, 0), 0, ⟨#[]⟩, 0, ⟨#[]⟩⟩
def wI (w : Wr) : List IV := [.int .i64 w.d.1, .int .i64 w.d.2, .int .i64 w.t, .str w.doc, .int .i64 w.f, .str w.txt]
abbrev wF (w : Wr) : FV := .agg [.iv (.int .i64 w.d.1), .iv (.int .i64 w.d.2), .iv (.int .i64 w.t), .iv (.str w.doc), .iv (.int .i64 w.f), .iv (.str w.txt)]
def eWs (l : List Wr) : List (List IV) := l.map wI
abbrev stF (b : Bool) (z : Nat) (v : List Int) (l : List Wr) : FV := .agg [.iv (.arr 64 (vec v)), .iv (.sl b z (eWs l))]
def smGo : List Wr → Nat → Bool
  | [], _ => true
  | w :: r, b => if 8192 < b + (min w.doc.size 8192 + min w.txt.size 8192) then false else smGo r (b + (min w.doc.size 8192 + min w.txt.size 8192))
def smB (l : List Wr) : Bool := decide (l.length ≤ 120) && smGo l 0
theorem n17 (v : List Int) (l : List Wr) (t : Bool) (z : Nat) (hz : z = 6 ∨ z = 0 ∧ l = []) : Pn 301 17 [stF t z v l] [] (bl (smB l)) [] := by
  refine playN 300 rfl rfl fun A call hA hcall => ?_
  obtain ⟨pl, mi, ml, nt, tn, ad, sb, K⟩ := kit hA
  obtain ⟨EX, ix, sn, ll, cc, sg, X⟩ := lkit hA K zeroWr (fun w => [.int .i64 w.d.1, .int .i64 w.d.2, .int .i64 w.t, .str w.doc, .int .i64 w.f, .str w.txt]) 64
  obtain ⟨W, gx, st', V⟩ := rkit hA
  have hvW : vec v = W v := by rw [V.W_]; rfl
  have hEX : eWs l = EX l := by rw [X.E_]; rfl
  dsimp only [stF]
  rw [hvW, hEX]
  obtain ⟨zs, hzs⟩ : ∃ zs : ByteArray → Nat, ∀ s, zs s = s.size := ⟨_, fun _ => rfl⟩
  have sl : ∀ s, A .slen s = nt (zs s) := fun s => by rw [hA, real_slen, K.nt_, hzs]
  obtain ⟨M, hM⟩ : ∃ M : Int, M = nt (ll l) := ⟨_, rfl⟩
  have hMl : M = l.length := by rw [hM, K.nt_, X.ll_]
  have ln : A .len (EX l) = M := by rw [X.len, hM]
  unfold smB
  by_cases h80 : l.length ≤ 120
  · rw [decide_eq_true h80, Bool.true_and]
    generalize hR : smGo l 0 = R
    apply wpV_seq; refine wpV_ofH (by ((try (conv => lhs; cbv)); (exact rfl))) ?_
    apply wpV_seq; apply wpV_seq; refine wpV_ofH (by ((try (conv => lhs; cbv)); (repeat ((first | (rewrite [ln]) | (rewrite [K.gtF]; rotate_left; focus ((try simp only [K.df, X.df, V.df, hzs, true_and, and_true]) <;> omega))); (try (conv => lhs; cbv)))); (exact rfl))) ?_
    apply wpV_of (by rfl); show wpV _ _ _ _ _ _
    apply wpV_seq; refine wpV_ofH (by ((try (conv => lhs; cbv)); (exact rfl))) ?_
    apply wpV_seq; apply wpV_seq; refine wpV_ofH (by ((try (conv => lhs; cbv)); (repeat ((first | (rewrite [ln])); (try (conv => lhs; cbv)))); (exact rfl))) ?_
    apply wpV_block
    refine wpV_loop l.length (fun j st => ∃ (J B : Int) (b : Nat), st = ⟨0, [u, u, u, i64 B, u, u, u, u, u, u, u, .one (.iv (.sl t z (EX l))), i64 M, i64 J, u, u, u, u, u, u, u, u, u, u, u, u, u, u, u, u, u], []⟩ ∧ J = j ∧ B = b ∧ b ≤ 8192 ∧ smGo (l.drop j) b = R) (by omega) (by ((try (conv => lhs; cbv)); (try (with_reducible rfl)))) ⟨0, 0, 0, rfl, rfl, rfl, by omega, hR⟩ ?_
    rintro j hj st ⟨J, B, b, rfl, hJ, hB, hb, hgo⟩
    by_cases hjl : j < l.length
    · obtain rfl : z = 6 := by
        rcases hz with h | ⟨h, h2⟩
        · exact h
        · rw [h2] at hjl; simp at hjl
      have hd : l.drop j = ix l J :: l.drop (j + 1) := by
        rw [X.ix_, hJ, Int.toNat_natCast, List.drop_eq_getElem_cons (by omega), List.getD_eq_getElem?_getD, List.getElem?_eq_getElem (by omega)]; rfl
      rw [hd, smGo] at hgo
      have gx := X.get (l := l) (J := J) (by omega)
      generalize ix l J = e at *
      obtain ⟨⟨r, n⟩, tt, doc, f, txt⟩ := e
      dsimp only at gx hgo
      by_cases c1 : doc.size ≤ 8192 <;> by_cases c2 : txt.size ≤ 8192
      · rw [Nat.min_eq_left c1, Nat.min_eq_left c2] at hgo
        by_cases h2 : 8192 < b + (doc.size + txt.size)
        · rw [if_pos h2] at hgo
          subst hgo
          refine wpV_ofH (by ((try (conv => lhs; cbv)); (repeat ((first | (rewrite [gx]) | (rewrite [sl]) | (rewrite [K.addr]; rotate_left; focus ((try simp only [K.df, X.df, V.df, hzs, true_and, and_true]) <;> omega)) | (rewrite [K.add]; rotate_left; focus ((try simp only [K.df, X.df, V.df, hzs, true_and, and_true]) <;> omega)) | (rewrite [K.ltT]; rotate_left; focus ((try simp only [K.df, X.df, V.df, hzs, true_and, and_true]) <;> omega)) | (rewrite [K.gtT]; rotate_left; focus ((try simp only [K.df, X.df, V.df, hzs, true_and, and_true]) <;> omega)) | (rewrite [K.miL]; rotate_left; focus ((try simp only [K.df, X.df, V.df, hzs, true_and, and_true]) <;> omega))); (try (conv => lhs; cbv)))); (exact rfl))) ?_
          show finQ _ _ _ _ _
          (show finV _ _ _ = some _; ((try (conv => lhs; cbv)); (try (with_reducible rfl))); (try rfl))
        · rw [if_neg h2] at hgo
          refine wpV_ofH (by ((try (conv => lhs; cbv)); (repeat ((first | (rewrite [gx]) | (rewrite [sl]) | (rewrite [K.addr]; rotate_left; focus ((try simp only [K.df, X.df, V.df, hzs, true_and, and_true]) <;> omega)) | (rewrite [K.add]; rotate_left; focus ((try simp only [K.df, X.df, V.df, hzs, true_and, and_true]) <;> omega)) | (rewrite [K.ltT]; rotate_left; focus ((try simp only [K.df, X.df, V.df, hzs, true_and, and_true]) <;> omega)) | (rewrite [K.miL]; rotate_left; focus ((try simp only [K.df, X.df, V.df, hzs, true_and, and_true]) <;> omega)) | (rewrite [K.gtF]; rotate_left; focus ((try simp only [K.df, X.df, V.df, hzs, true_and, and_true]) <;> omega))); (try (conv => lhs; cbv)))); (exact rfl))) ?_
          refine headQ_ofH (by ((try (conv => lhs; cbv)); (exact rfl))) ?_
          refine ⟨hjl, _, _, _, rfl, ?_, ?_, ?_, hgo⟩
          · rw [K.pl_]; omega
          · rw [K.pl_, K.pl_, K.nt_, K.nt_, hzs, hzs]; omega
          · omega
      · rw [Nat.min_eq_left c1, Nat.min_eq_right (by omega)] at hgo
        by_cases h2 : 8192 < b + (doc.size + 8192)
        · rw [if_pos h2] at hgo
          subst hgo
          refine wpV_ofH (by ((try (conv => lhs; cbv)); (repeat ((first | (rewrite [gx]) | (rewrite [sl]) | (rewrite [K.addr]; rotate_left; focus ((try simp only [K.df, X.df, V.df, hzs, true_and, and_true]) <;> omega)) | (rewrite [K.add]; rotate_left; focus ((try simp only [K.df, X.df, V.df, hzs, true_and, and_true]) <;> omega)) | (rewrite [K.ltT]; rotate_left; focus ((try simp only [K.df, X.df, V.df, hzs, true_and, and_true]) <;> omega)) | (rewrite [K.gtT]; rotate_left; focus ((try simp only [K.df, X.df, V.df, hzs, true_and, and_true]) <;> omega)) | (rewrite [K.miL]; rotate_left; focus ((try simp only [K.df, X.df, V.df, hzs, true_and, and_true]) <;> omega)) | (rewrite [K.miR]; rotate_left; focus ((try simp only [K.df, X.df, V.df, hzs, true_and, and_true]) <;> omega))); (try (conv => lhs; cbv)))); (exact rfl))) ?_
          show finQ _ _ _ _ _
          (show finV _ _ _ = some _; ((try (conv => lhs; cbv)); (try (with_reducible rfl))); (try rfl))
        · rw [if_neg h2] at hgo
          refine wpV_ofH (by ((try (conv => lhs; cbv)); (repeat ((first | (rewrite [gx]) | (rewrite [sl]) | (rewrite [K.addr]; rotate_left; focus ((try simp only [K.df, X.df, V.df, hzs, true_and, and_true]) <;> omega)) | (rewrite [K.add]; rotate_left; focus ((try simp only [K.df, X.df, V.df, hzs, true_and, and_true]) <;> omega)) | (rewrite [K.ltT]; rotate_left; focus ((try simp only [K.df, X.df, V.df, hzs, true_and, and_true]) <;> omega)) | (rewrite [K.miL]; rotate_left; focus ((try simp only [K.df, X.df, V.df, hzs, true_and, and_true]) <;> omega)) | (rewrite [K.gtF]; rotate_left; focus ((try simp only [K.df, X.df, V.df, hzs, true_and, and_true]) <;> omega)) | (rewrite [K.miR]; rotate_left; focus ((try simp only [K.df, X.df, V.df, hzs, true_and, and_true]) <;> omega))); (try (conv => lhs; cbv)))); (exact rfl))) ?_
          refine headQ_ofH (by ((try (conv => lhs; cbv)); (exact rfl))) ?_
          refine ⟨hjl, _, _, _, rfl, ?_, ?_, ?_, hgo⟩
          · rw [K.pl_]; omega
          · rw [K.pl_, K.pl_, K.nt_, hzs]; omega
          · omega
      · rw [Nat.min_eq_right (by omega), Nat.min_eq_left c2] at hgo
        by_cases h2 : 8192 < b + (8192 + txt.size)
        · rw [if_pos h2] at hgo
          subst hgo
          refine wpV_ofH (by ((try (conv => lhs; cbv)); (repeat ((first | (rewrite [gx]) | (rewrite [sl]) | (rewrite [K.addr]; rotate_left; focus ((try simp only [K.df, X.df, V.df, hzs, true_and, and_true]) <;> omega)) | (rewrite [K.add]; rotate_left; focus ((try simp only [K.df, X.df, V.df, hzs, true_and, and_true]) <;> omega)) | (rewrite [K.ltT]; rotate_left; focus ((try simp only [K.df, X.df, V.df, hzs, true_and, and_true]) <;> omega)) | (rewrite [K.gtT]; rotate_left; focus ((try simp only [K.df, X.df, V.df, hzs, true_and, and_true]) <;> omega)) | (rewrite [K.miL]; rotate_left; focus ((try simp only [K.df, X.df, V.df, hzs, true_and, and_true]) <;> omega)) | (rewrite [K.miR]; rotate_left; focus ((try simp only [K.df, X.df, V.df, hzs, true_and, and_true]) <;> omega))); (try (conv => lhs; cbv)))); (exact rfl))) ?_
          show finQ _ _ _ _ _
          (show finV _ _ _ = some _; ((try (conv => lhs; cbv)); (try (with_reducible rfl))); (try rfl))
        · rw [if_neg h2] at hgo
          refine wpV_ofH (by ((try (conv => lhs; cbv)); (repeat ((first | (rewrite [gx]) | (rewrite [sl]) | (rewrite [K.addr]; rotate_left; focus ((try simp only [K.df, X.df, V.df, hzs, true_and, and_true]) <;> omega)) | (rewrite [K.add]; rotate_left; focus ((try simp only [K.df, X.df, V.df, hzs, true_and, and_true]) <;> omega)) | (rewrite [K.ltT]; rotate_left; focus ((try simp only [K.df, X.df, V.df, hzs, true_and, and_true]) <;> omega)) | (rewrite [K.miL]; rotate_left; focus ((try simp only [K.df, X.df, V.df, hzs, true_and, and_true]) <;> omega)) | (rewrite [K.gtF]; rotate_left; focus ((try simp only [K.df, X.df, V.df, hzs, true_and, and_true]) <;> omega)) | (rewrite [K.miR]; rotate_left; focus ((try simp only [K.df, X.df, V.df, hzs, true_and, and_true]) <;> omega))); (try (conv => lhs; cbv)))); (exact rfl))) ?_
          refine headQ_ofH (by ((try (conv => lhs; cbv)); (exact rfl))) ?_
          refine ⟨hjl, _, _, _, rfl, ?_, ?_, ?_, hgo⟩
          · rw [K.pl_]; omega
          · rw [K.pl_, K.pl_, K.nt_, hzs]; omega
          · omega
      · rw [Nat.min_eq_right (by omega), Nat.min_eq_right (by omega)] at hgo
        rw [if_pos (by omega)] at hgo
        subst hgo
        refine wpV_ofH (by ((try (conv => lhs; cbv)); (repeat ((first | (rewrite [gx]) | (rewrite [sl]) | (rewrite [K.addr]; rotate_left; focus ((try simp only [K.df, X.df, V.df, hzs, true_and, and_true]) <;> omega)) | (rewrite [K.add]; rotate_left; focus ((try simp only [K.df, X.df, V.df, hzs, true_and, and_true]) <;> omega)) | (rewrite [K.ltT]; rotate_left; focus ((try simp only [K.df, X.df, V.df, hzs, true_and, and_true]) <;> omega)) | (rewrite [K.gtT]; rotate_left; focus ((try simp only [K.df, X.df, V.df, hzs, true_and, and_true]) <;> omega)) | (rewrite [K.miR]; rotate_left; focus ((try simp only [K.df, X.df, V.df, hzs, true_and, and_true]) <;> omega))); (try (conv => lhs; cbv)))); (exact rfl))) ?_
        show finQ _ _ _ _ _
        (show finV _ _ _ = some _; ((try (conv => lhs; cbv)); (try (with_reducible rfl))); (try rfl))
    · obtain rfl : j = l.length := by omega
      rw [List.drop_of_length_le (Nat.le_refl _), smGo] at hgo
      subst hgo
      refine wpV_ofH (by ((try (conv => lhs; cbv)); (repeat ((first | (rewrite [K.ltF]; rotate_left; focus ((try simp only [K.df, X.df, V.df, hzs, true_and, and_true]) <;> omega))); (try (conv => lhs; cbv)))); (exact rfl))) ?_
      show wpV _ _ _ _ _ _
      refine wpV_ofH (by ((try (conv => lhs; cbv)); (exact rfl))) ?_
      (show finV _ _ _ = some _; ((try (conv => lhs; cbv)); (try (with_reducible rfl))); (try rfl))
  · rw [decide_eq_false h80, Bool.false_and]
    refine wpV_ofH (by ((try (conv => lhs; cbv)); (repeat ((first | (rewrite [ln]) | (rewrite [K.gtT]; rotate_left; focus ((try simp only [K.df, X.df, V.df, hzs, true_and, and_true]) <;> omega))); (try (conv => lhs; cbv)))); (exact rfl))) ?_
    (show finV _ _ _ = some _; ((try (conv => lhs; cbv)); (try (with_reducible rfl))); (try rfl))
/-! ### Texts held against each other, and the order of writes -/
def cmpS (a b : ByteArray) : Int := if Op.bytesLess a.toList b.toList = true then -1 else if rScmp .gtr a b = true then 1 else 0
theorem n114 (s : ByteArray) : Pn 1 114 [.one (.iv (.str s))] [] (bl false) [] := by
  refine playN 0 rfl rfl fun A call hA hcall => ?_
  obtain ⟨pl, mi, ml, nt, tn, ad, sb, K⟩ := kit hA
  obtain ⟨EX, ix, sn, ll, cc, sg, X⟩ := lkit hA K (0 : Int) (fun z => [.int .i64 z]) 8
  obtain ⟨W, gx, st', V⟩ := rkit hA
  obtain ⟨zs, hzs⟩ : ∃ zs : ByteArray → Nat, ∀ s, zs s = s.size := ⟨_, fun _ => rfl⟩
  have s1 : A .scmp .neq s s = false := by rw [hA]; show (!(s.toList == s.toList)) = false; simp
  refine wpV_ofH (by ((try (conv => lhs; cbv)); (repeat ((first | (rewrite [s1])); (try (conv => lhs; cbv)))); (exact rfl))) ?_
  (show finV _ _ _ = some _; ((try (conv => lhs; cbv)); (try (with_reducible rfl))); (try rfl))
theorem n90 (x y : ByteArray) : Pn 2 90 [.one (.iv (.str x)), .one (.iv (.str y))] [] (i64 (cmpS x y)) [] := by
  refine playN 1 rfl rfl fun A call hA hcall => ?_
  obtain ⟨pl, mi, ml, nt, tn, ad, sb, K⟩ := kit hA
  obtain ⟨EX, ix, sn, ll, cc, sg, X⟩ := lkit hA K (0 : Int) (fun z => [.int .i64 z]) 8
  obtain ⟨W, gx, st', V⟩ := rkit hA
  obtain ⟨zs, hzs⟩ : ∃ zs : ByteArray → Nat, ∀ s, zs s = s.size := ⟨_, fun _ => rfl⟩
  have k1 := n114 x 1 (by omega)
  have k2 := n114 y 1 (by omega)
  rw [← hcall] at k1 k2
  have s1 : A .scmp .lss x y = Op.bytesLess x.toList y.toList := by rw [hA]; rfl
  have s2 : A .scmp .gtr x y = rScmp .gtr x y := by rw [hA]; rfl
  cases hp : Op.bytesLess x.toList y.toList <;> cases hq : rScmp .gtr x y
  all_goals
    rw [hp] at s1
    rw [hq] at s2
    simp only [cmpS, hp, hq, Bool.false_eq_true, if_true, if_false, eq_self]
    refine wpV_ofH (by ((try (conv => lhs; cbv)); (repeat ((first | (rewrite [k1]) | (rewrite [k2]) | (rewrite [s1]) | (rewrite [s2])); (try (conv => lhs; cbv)))); (exact rfl))) ?_
    (show finV _ _ _ = some _; ((try (conv => lhs; cbv)); (try (with_reducible rfl))); (try rfl))
def ordW (a b : Wr) : Int := orL [cmpS a.doc b.doc, cmpI a.f b.f, cmpN a.d b.d]
theorem n54 (a b : Wr) : Pn 1004 54 [wF a, wF b] [] (i64 (ordW a b)) [] := by
  refine playN 1003 rfl rfl fun A call hA hcall => ?_
  obtain ⟨pl, mi, ml, nt, tn, ad, sb, K⟩ := kit hA
  obtain ⟨EX, ix, sn, ll, cc, sg, X⟩ := lkit hA K (0 : Int) (fun z => [.int .i64 z]) 8
  obtain ⟨W, gx, st', V⟩ := rkit hA
  obtain ⟨zs, hzs⟩ : ∃ zs : ByteArray → Nat, ∀ s, zs s = s.size := ⟨_, fun _ => rfl⟩
  obtain ⟨⟨ar, an⟩, at', ad', af, ax⟩ := a
  obtain ⟨⟨br, bn⟩, bt', bd, bf, bx⟩ := b
  have k1 := n90 ad' bd 1003 (by omega)
  have k2 := n91 af bf 1003 (by omega)
  have k3 := n86 ar an br bn 1003 (by omega)
  have k4 := n89 [cmpS ad' bd, cmpI af bf, cmpN (ar, an) (br, bn)] true (by simp) 1003 (by omega)
  rw [← hcall] at k1 k2 k3 k4
  simp only [intsI, List.map_cons, List.map_nil] at k4
  unfold ordW
  dsimp only [wF, dotF] at *
  generalize orL _ = w at *
  generalize cmpS ad' bd = x at *
  generalize cmpI af bf = y at *
  generalize cmpN (ar, an) (br, bn) = u at *
  refine wpV_ofH (by ((try (conv => lhs; cbv)); (repeat ((first | (rewrite [k1]) | (rewrite [k2]) | (rewrite [k3]) | (rewrite [k4])); (try (conv => lhs; cbv)))); (exact rfl))) ?_
  (show finV _ _ _ = some _; ((try (conv => lhs; cbv)); (try (with_reducible rfl))); (try rfl))
/-! ### Writes and states that may be -/
def hasB (v : List Int) (d : Int × Int) : Bool := validB d && decide (d.2 ≤ v.getD d.1.toNat 0)
theorem n47 {v : List Int} (hv : v.length = 64) (r n : Int) : Pn 2 47 [vecF v, dotF (r, n)] [] (bl (hasB v (r, n))) [] := by
  refine playN 1 rfl rfl fun A call hA hcall => ?_
  obtain ⟨pl, mi, ml, nt, tn, ad, sb, K⟩ := kit hA
  obtain ⟨EX, ix, sn, ll, cc, sg, X⟩ := lkit hA K (0 : Int) (fun z => [.int .i64 z]) 8
  obtain ⟨W, gx, st', V⟩ := rkit hA
  obtain ⟨zs, hzs⟩ : ∃ zs : ByteArray → Nat, ∀ s, zs s = s.size := ⟨_, fun _ => rfl⟩
  have k1 := n39 r n 1 (by omega)
  rw [← hcall] at k1
  have hvW : vec v = W v := by rw [V.W_]; rfl
  dsimp only [vecF, dotF] at *
  rw [hvW]
  unfold hasB
  rcases valid_cases r n with ⟨h, h1⟩ | ⟨h, h1⟩
  · rw [h] at k1
    rw [h, Bool.false_and]
    refine wpV_ofH (by ((try (conv => lhs; cbv)); (repeat ((first | (rewrite [k1])); (try (conv => lhs; cbv)))); (exact rfl))) ?_
    (show finV _ _ _ = some _; ((try (conv => lhs; cbv)); (try (with_reducible rfl))); (try rfl))
  · rw [h] at k1
    rw [h, Bool.true_and, show v.getD (r, n).1.toNat 0 = gx v r by rw [V.gx_]]
    dsimp only
    by_cases h2 : n ≤ gx v r
    · have cl := K.leT h2
      rw [decide_eq_true h2]
      refine wpV_ofH (by ((try (conv => lhs; cbv)); (repeat ((first | (rewrite [k1]) | (rewrite [K.at_]; rotate_left; focus ((try simp only [K.df, X.df, V.df, hzs, true_and, and_true]) <;> omega)) | (rewrite [V.getc]; rotate_left; focus ((try simp only [K.df, X.df, V.df, hzs, true_and, and_true]) <;> omega))); (try (conv => lhs; cbv)))); (exact rfl))) ?_
      (show finV _ _ _ = some _; ((try (conv => lhs; cbv)); (repeat ((first | (rewrite [cl])); (try (conv => lhs; cbv)))); (try (with_reducible rfl))); (try rfl))
    · have cl := K.leF (show gx v r < n by omega)
      rw [decide_eq_false h2]
      refine wpV_ofH (by ((try (conv => lhs; cbv)); (repeat ((first | (rewrite [k1]) | (rewrite [K.at_]; rotate_left; focus ((try simp only [K.df, X.df, V.df, hzs, true_and, and_true]) <;> omega)) | (rewrite [V.getc]; rotate_left; focus ((try simp only [K.df, X.df, V.df, hzs, true_and, and_true]) <;> omega))); (try (conv => lhs; cbv)))); (exact rfl))) ?_
      (show finV _ _ _ = some _; ((try (conv => lhs; cbv)); (repeat ((first | (rewrite [cl])); (try (conv => lhs; cbv)))); (try (with_reducible rfl))); (try rfl))
def goodW (v : List Int) (w : Wr) : Bool := decide (chk ⟨w.d, w.t, 1, w.doc, w.f, w.txt, []⟩ = 0) && hasB v w.d
def cnGo (v : List Int) (l : List Wr) : Nat → Nat → Bool
  | 0, _ => true
  | k + 1, i => if goodW v (l.getD i zeroWr) = false ∨ 0 < i ∧ 0 ≤ ordW (l.getD (i - 1) zeroWr) (l.getD i zeroWr) then false else cnGo v l k (i + 1)
def canB (v : List Int) (l : List Wr) : Bool := goodB v && decide (l.length ≤ 4096) && cnGo v l l.length 0
end Go.Proofs.Ytanpphoehajcgaa
