/- Tables by texts: the program's table gone through. -/
import Derived.Test.YtlbmknejhmmjnaaSTC
set_option linter.unusedSimpArgs false
set_option linter.unusedVariables false
set_option maxRecDepth 100000
set_option maxHeartbeats 1000000
set_option cbv.maxSteps 10000000
namespace Go.Proofs.Ytlbmknejhmmjnaa
open Go GoV

theorem cmpS_lt (a b : ByteArray) : cmpS a b < 0 ↔ ltS a b = true := by
  unfold cmpS
  cases ltS a b <;> cases ltS b a <;> simp
theorem cmpS_eq (a b : ByteArray) : cmpS a b = 0 ↔ a = b := by
  unfold cmpS
  rcases ltS_tri a b with h | h | h
  · rw [h]; simp [ltS_ne h]
  · subst h; rw [ltS_irr]; simp
  · rw [h, ltS_asym h, if_neg (by decide), if_pos rfl]
    exact ⟨fun h => (by cases h), fun e => absurd e.symm (ltS_ne h)⟩
theorem q53 {l a m b : List Rw} {k : ByteArray} (s : Spl l k a m b) (zs : List Rw) (hl : l.length ≤ 900) (g : Bool) :
    Qn 1000 53 [.one (.slo 0 0 l.length), .one (.iv (.str k)), .one (.iv (.fn 54))] [.arr false g 2 (eRs (l ++ zs))] (.tup [(false, [.iv (.int .i64 (a.length : Nat))]), (false, [.iv (.bool (!m.isEmpty))])]) [.arr false g 2 (eRs (l ++ zs))] := by
  refine playQ 999 rfl rfl fun A call hA hcall => ?_
  obtain ⟨pl, mi, ml, nt, tn, ad, sb, K⟩ := kit hA
  obtain ⟨E, ix, sn, ll, cc, sg, D⟩ := lkit hA K z0 (fun p => [.str p.1, .int .i64 p.2]) 24
  have hE : ∀ l, eRs l = E l := fun l => by rw [D.E_]; rfl
  have k54 : ∀ x : Rw, call 54 [.agg [.iv (.str x.1), .iv (.int .i64 x.2)], .one (.iv (.str k))] [] = some (i64 (cmpS x.1 k), []) := fun x => by rw [hcall]; exact q54 x k 999 (by omega)
  obtain ⟨hll, hml⟩ := s.lens
  have hme : m.isEmpty = decide (m.length = 0) := by cases m <;> simp
  obtain ⟨N, hN⟩ : ∃ N, N = l.length := ⟨_, rfl⟩
  obtain ⟨M, hM⟩ : ∃ M : Int, M = nt N := ⟨_, rfl⟩
  have hMl : M = N := by rw [hM, K.nt_]
  have ofN : A .ofN N = M := by rw [K.ofN, hM]
  have hzl : (l ++ zs).length = l.length + zs.length := List.length_append
  have hix : ∀ J : Int, 0 ≤ J → J < N → ix (l ++ zs) J = l.getD J.toNat z0 := fun J h1 h2 => by
    rw [D.ix_, List.getD_eq_getElem?_getD, List.getD_eq_getElem?_getD, List.getElem?_append_left (by omega)]
  rw [hE, ← hN]
  generalize hL : l ++ zs = L at *
  apply wpV_seq; refine wpV_ofH (by ((try (conv => lhs; cbv)); (exact rfl))) ?_
  apply wpV_seq; refine wpV_ofH (by ((try (conv => lhs; cbv)); (repeat ((first | (rewrite [ofN])); (try (conv => lhs; cbv)))); (exact rfl))) ?_
  apply wpV_seq; refine wpV_ofH (by ((try (conv => lhs; cbv)); (exact rfl))) ?_
  apply wpV_seq
  apply wpV_block
  refine wpV_loop N (fun t st => ∃ (I J : Int) (i j : Nat), st = ⟨1, (.one (.slo 0 0 N) :: .one (.iv (.str k)) :: .one (.iv (.fn 54)) :: u :: u :: u :: u :: u :: i64 M :: i64 I :: i64 J :: u :: u :: u :: u :: u :: u :: u :: u :: u :: u :: u :: u :: u :: u :: u :: u :: u :: u :: u :: u :: u :: u :: u :: u :: u :: u :: u :: u :: u :: u :: u :: u :: u :: u :: u :: u :: u :: u :: []), [.arr false g 2 (E L)]⟩ ∧ I = i ∧ J = j ∧ i ≤ a.length ∧ a.length ≤ j ∧ j ≤ N ∧ j - i ≤ N - t) (by omega) (by ((try (conv => lhs; cbv)); (try (with_reducible rfl)))) ⟨0, M, 0, N, rfl, rfl, by omega, by omega, by omega, by omega, by omega⟩ ?_
  rintro t ht st ⟨I, J, i, j, rfl, hI, hJ, hia, haj, hjN, hd⟩
  by_cases him : i < j
  · obtain ⟨H, hH⟩ : ∃ H : Int, H = (((i + j) / 2 : Nat) : Int) := ⟨_, rfl⟩
    have s1 : A .ar .shr .u64 (pl I J) 1 = H := by
      rw [hA, K.pl_]
      show Int.fdiv (I + J) (2 ^ (min (1 : Int).toNat 64)) = H
      rw [show ((2 : Int) ^ (min (1 : Int).toNat 64)) = 2 from rfl, Int.fdiv_eq_ediv_of_nonneg _ (by omega)]
      omega
    have gN := D.getN (l := L) (J := H) (by omega)
    have hx := hix H (by omega) (by omega)
    rw [hH, Int.toNat_natCast, ← hH] at hx
    obtain ⟨g1, g2⟩ := s.get (i := (i + j) / 2) (by omega)
    rw [show l.getD ((i + j) / 2) ((⟨#[]⟩ : ByteArray), (0 : Int)) = ix L H from hx.symm] at g1 g2
    have kk := k54 (ix L H)
    have hc := cmpS_lt (ix L H).1 k
    rw [g1] at hc
    generalize ix L H = x at *
    generalize hC : cmpS x.1 k = C at *
    obtain ⟨y, v⟩ := x
    dsimp only at gN kk hC
    have hpl : pl I J = I + J := K.pl_ _ _
    by_cases hC0 : C < 0
    · have hlt : (i + j) / 2 < a.length := of_decide_eq_true (hc.1 hC0)
      refine wpV_ofH (by ((try (conv => lhs; cbv)); (repeat ((first | (rewrite [s1]) | (rewrite [gN]) | (rewrite [kk]) | (rewrite [K.ckI]; rotate_left; focus ((try simp only [K.df, D.df, true_and, and_true]) <;> omega)) | (rewrite [K.ckU]; rotate_left; focus ((try simp only [K.df, D.df, true_and, and_true]) <;> omega)) | (rewrite [K.add]; rotate_left; focus ((try simp only [K.df, D.df, true_and, and_true]) <;> omega)) | (rewrite [K.nn]; rotate_left; focus ((try simp only [K.df, D.df, true_and, and_true]) <;> omega)) | (rewrite [K.at_]; rotate_left; focus ((try simp only [K.df, D.df, true_and, and_true]) <;> omega)) | (rewrite [K.ltT]; rotate_left; focus ((try simp only [K.df, D.df, true_and, and_true]) <;> omega))); (try (conv => lhs; cbv)))); (exact rfl))) ?_
      refine headQ_ofH (by ((try (conv => lhs; cbv)); (exact rfl))) ?_
      refine ⟨by omega, _, _, (i + j) / 2 + 1, j, rfl, ?_, hJ, ?_, haj, hjN, ?_⟩
      · rw [K.pl_, hH]; omega
      · omega
      · omega
    · have hlt : ¬ (i + j) / 2 < a.length := fun h => hC0 (hc.2 (decide_eq_true h))
      refine wpV_ofH (by ((try (conv => lhs; cbv)); (repeat ((first | (rewrite [s1]) | (rewrite [gN]) | (rewrite [kk]) | (rewrite [K.ckI]; rotate_left; focus ((try simp only [K.df, D.df, true_and, and_true]) <;> omega)) | (rewrite [K.ckU]; rotate_left; focus ((try simp only [K.df, D.df, true_and, and_true]) <;> omega)) | (rewrite [K.add]; rotate_left; focus ((try simp only [K.df, D.df, true_and, and_true]) <;> omega)) | (rewrite [K.nn]; rotate_left; focus ((try simp only [K.df, D.df, true_and, and_true]) <;> omega)) | (rewrite [K.at_]; rotate_left; focus ((try simp only [K.df, D.df, true_and, and_true]) <;> omega)) | (rewrite [K.ltT]; rotate_left; focus ((try simp only [K.df, D.df, true_and, and_true]) <;> omega)) | (rewrite [K.ltF]; rotate_left; focus ((try simp only [K.df, D.df, true_and, and_true]) <;> omega))); (try (conv => lhs; cbv)))); (exact rfl))) ?_
      refine headQ_ofH (by ((try (conv => lhs; cbv)); (exact rfl))) ?_
      refine ⟨by omega, _, _, i, (i + j) / 2, rfl, hI, hH, hia, ?_, ?_, ?_⟩
      · omega
      · omega
      · omega
  · have hia' : i = a.length := by omega
    refine wpV_ofH (by ((try (conv => lhs; cbv)); (repeat ((first | (rewrite [K.ltF]; rotate_left; focus ((try simp only [K.df, D.df, true_and, and_true]) <;> omega))); (try (conv => lhs; cbv)))); (exact rfl))) ?_
    show wpV _ _ _ _ _ _
    rw [← hia', ← hI]
    by_cases hiN : i < N
    · have gN := D.getN (l := L) (J := I) (by omega)
      have hx := hix I (by omega) (by omega)
      rw [hI, Int.toNat_natCast, ← hI] at hx
      obtain ⟨g1, g2⟩ := s.get (i := i) (by omega)
      rw [show l.getD i ((⟨#[]⟩ : ByteArray), (0 : Int)) = ix L I from hx.symm, decide_eq_true hia', Bool.true_and] at g2
      have kk := k54 (ix L I)
      have hc := cmpS_eq (ix L I).1 k
      generalize ix L I = x at *
      generalize hC : cmpS x.1 k = C at *
      obtain ⟨y, v⟩ := x
      dsimp only at gN kk hC g2 hc
      generalize (!m.isEmpty) = B at *
      by_cases hC0 : C = 0
      · rw [decide_eq_true (hc.1 hC0)] at g2
        subst g2
        refine wpV_ofH (by ((try (conv => lhs; cbv)); (repeat ((first | (rewrite [gN]) | (rewrite [kk]) | (rewrite [K.at_]; rotate_left; focus ((try simp only [K.df, D.df, true_and, and_true]) <;> omega)) | (rewrite [K.ltT]; rotate_left; focus ((try simp only [K.df, D.df, true_and, and_true]) <;> omega)) | (rewrite [K.eqT]; rotate_left; focus ((try simp only [K.df, D.df, true_and, and_true]) <;> omega))); (try (conv => lhs; cbv)))); (exact rfl))) ?_
        (show finV _ _ _ = some _; ((try (conv => lhs; cbv)); (try (with_reducible rfl))); (try rfl))
      · rw [decide_eq_false (fun e => hC0 (hc.2 e))] at g2
        subst g2
        refine wpV_ofH (by ((try (conv => lhs; cbv)); (repeat ((first | (rewrite [gN]) | (rewrite [kk]) | (rewrite [K.at_]; rotate_left; focus ((try simp only [K.df, D.df, true_and, and_true]) <;> omega)) | (rewrite [K.ltT]; rotate_left; focus ((try simp only [K.df, D.df, true_and, and_true]) <;> omega)) | (rewrite [K.eqF]; rotate_left; focus ((try simp only [K.df, D.df, true_and, and_true]) <;> omega))); (try (conv => lhs; cbv)))); (exact rfl))) ?_
        (show finV _ _ _ = some _; ((try (conv => lhs; cbv)); (try (with_reducible rfl))); (try rfl))
    · rw [hme, decide_eq_true (by omega)]
      refine wpV_ofH (by ((try (conv => lhs; cbv)); (repeat ((first | (rewrite [K.ltF]; rotate_left; focus ((try simp only [K.df, D.df, true_and, and_true]) <;> omega))); (try (conv => lhs; cbv)))); (exact rfl))) ?_
      (show finV _ _ _ = some _; ((try (conv => lhs; cbv)); (try (with_reducible rfl))); (try rfl))
/-- The table: a variable that holds a slice, and its row. -/
abbrev tbV (n : Nat) : Blk := .var false [.slo 1 0 n]
theorem q25 {l a m b : List Rw} {k : ByteArray} (s : Spl l k a m b) (zs : List Rw) (hl : l.length ≤ 900) (g : Bool) :
    Qn 1001 25 [.one (.ptr 0 0), .one (.iv (.str k))] [tbV l.length, .arr false g 2 (eRs (l ++ zs))] (.tup [(false, [.iv (.int .i64 (a.length : Nat))]), (false, [.iv (.bool (!m.isEmpty))])]) [tbV l.length, .arr false g 2 (eRs (l ++ zs))] := by
  refine playQ 1000 rfl rfl fun A call hA hcall => ?_
  obtain ⟨pl, mi, ml, nt, tn, ad, sb, K⟩ := kit hA
  obtain ⟨E, ix, sn, ll, cc, sg, D⟩ := lkit hA K z0 (fun p => [.str p.1, .int .i64 p.2]) 24
  have k53 := q53 s zs hl false 1000 (by omega)
  rw [← hcall] at k53
  generalize (!m.isEmpty) = B at *
  generalize ((a.length : Nat) : Int) = P at *
  generalize eRs (l ++ zs) = es at *
  generalize l.length = n at *
  refine wpV_ofH (by ((try (conv => lhs; cbv)); (repeat ((first | (rewrite [k53])); (try (conv => lhs; cbv)))); (exact rfl))) ?_
  (show finV _ _ _ = some _; ((try (conv => lhs; cbv)); (try (with_reducible rfl))); (try rfl))
theorem q31 (n : Nat) (es : List (List IV)) (g : Bool) : Qn 1 31 [.one (.ptr 0 0)] [tbV n, .arr false g 2 es] (i64 (n : Nat)) [tbV n, .arr false g 2 es] := by
  refine playQ 0 rfl rfl fun A call hA hcall => ?_
  obtain ⟨pl, mi, ml, nt, tn, ad, sb, K⟩ := kit hA
  obtain ⟨E, ix, sn, ll, cc, sg, D⟩ := lkit hA K z0 (fun p => [.str p.1, .int .i64 p.2]) 24
  have ofN : A .ofN n = (n : Int) := by rw [K.ofN, K.nt_]
  generalize ((n : Nat) : Int) = N at *
  refine wpV_ofH (by ((try (conv => lhs; cbv)); (repeat ((first | (rewrite [ofN])); (try (conv => lhs; cbv)))); (exact rfl))) ?_
  (show finV _ _ _ = some _; ((try (conv => lhs; cbv)); (try (with_reducible rfl))); (try rfl))
theorem getMid {l a b : List Rw} {k : ByteArray} {v : Int} (he : l = a ++ [(k, v)] ++ b) (zs : List Rw) : (l ++ zs).getD a.length z0 = (k, v) := by
  rw [he, List.getD_eq_getElem?_getD, List.append_assoc, List.append_assoc, List.getElem?_append_right (Nat.le_refl _), Nat.sub_self]; rfl
theorem q28 {l a b : List Rw} {k : ByteArray} {v : Int} (s : Spl l k a [(k, v)] b) (zs : List Rw) (hl : l.length ≤ 900) (g : Bool) :
    Qn 1002 28 [.one (.ptr 0 0), .one (.iv (.str k))] [tbV l.length, .arr false g 2 (eRs (l ++ zs))] (.tup [(false, [.iv (.int .i64 v)]), (false, [.iv (.bool true)])]) [tbV l.length, .arr false g 2 (eRs (l ++ zs))] := by
  refine playQ 1001 rfl rfl fun A call hA hcall => ?_
  obtain ⟨pl, mi, ml, nt, tn, ad, sb, K⟩ := kit hA
  obtain ⟨E, ix, sn, ll, cc, sg, D⟩ := lkit hA K z0 (fun p => [.str p.1, .int .i64 p.2]) 24
  have hE : ∀ l, eRs l = E l := fun l => by rw [D.E_]; rfl
  have k25 := q25 s zs hl false 1001 (by omega)
  rw [← hcall] at k25
  rw [show (![(k, v)].isEmpty) = true from rfl] at k25
  obtain ⟨hll, hml⟩ := s.lens
  have hz : (l ++ zs).length = l.length + zs.length := List.length_append
  have hsl : [(k, v)].length = 1 := rfl
  obtain ⟨P, hP⟩ : ∃ P : Int, P = (a.length : Nat) := ⟨_, rfl⟩
  rw [← hP] at k25
  have gN := D.getN (l := l ++ zs) (J := P) (by omega)
  have hx : ix (l ++ zs) P = (k, v) := by rw [D.ix_, hP, Int.toNat_natCast]; exact getMid s.eq zs
  rw [hx] at gN
  rw [hE] at k25 ⊢
  dsimp only at gN
  generalize hn : l.length = n at *
  have at1 : A .at_ P n = some (tn P) := K.at_ (by omega)
  generalize E (l ++ zs) = es at *
  refine wpV_ofH (by ((try (conv => lhs; cbv)); (repeat ((first | (rewrite [k25]) | (rewrite [at1]) | (rewrite [gN])); (try (conv => lhs; cbv)))); (exact rfl))) ?_
  (show finV _ _ _ = some _; ((try (conv => lhs; cbv)); (try (with_reducible rfl))); (try rfl))
theorem q28n {l a b : List Rw} {k : ByteArray} (s : Spl l k a [] b) (zs : List Rw) (hl : l.length ≤ 900) (g : Bool) :
    Qn 1002 28 [.one (.ptr 0 0), .one (.iv (.str k))] [tbV l.length, .arr false g 2 (eRs (l ++ zs))] (.tup [(false, [.iv (.int .i64 0)]), (false, [.iv (.bool false)])]) [tbV l.length, .arr false g 2 (eRs (l ++ zs))] := by
  refine playQ 1001 rfl rfl fun A call hA hcall => ?_
  obtain ⟨pl, mi, ml, nt, tn, ad, sb, K⟩ := kit hA
  obtain ⟨E, ix, sn, ll, cc, sg, D⟩ := lkit hA K z0 (fun p => [.str p.1, .int .i64 p.2]) 24
  have k25 := q25 s zs hl false 1001 (by omega)
  rw [← hcall] at k25
  rw [show (!([] : List Rw).isEmpty) = false from rfl] at k25
  generalize ((a.length : Nat) : Int) = P at *
  generalize eRs (l ++ zs) = es at *
  generalize l.length = n at *
  refine wpV_ofH (by ((try (conv => lhs; cbv)); (repeat ((first | (rewrite [k25])); (try (conv => lhs; cbv)))); (exact rfl))) ?_
  (show finV _ _ _ = some _; ((try (conv => lhs; cbv)); (try (with_reducible rfl))); (try rfl))
theorem q26 {l a b : List Rw} {k : ByteArray} {v0 : Int} (s : Spl l k a [(k, v0)] b) (zs : List Rw) (hl : l.length ≤ 900) (g : Bool) (v : Int) :
    Qn 1002 26 [.one (.ptr 0 0), .one (.iv (.str k)), i64 v] [tbV l.length, .arr false g 2 (eRs (l ++ zs))] (bl false) [tbV l.length, .arr false g 2 (eRs ((a ++ [(k, v)] ++ b) ++ zs))] := by
  refine playQ 1001 rfl rfl fun A call hA hcall => ?_
  obtain ⟨pl, mi, ml, nt, tn, ad, sb, K⟩ := kit hA
  obtain ⟨E, ix, sn, ll, cc, sg, D⟩ := lkit hA K z0 (fun p => [.str p.1, .int .i64 p.2]) 24
  have hE : ∀ l, eRs l = E l := fun l => by rw [D.E_]; rfl
  have k25 := q25 s zs hl false 1001 (by omega)
  rw [← hcall] at k25
  rw [show (![(k, v0)].isEmpty) = true from rfl] at k25
  obtain ⟨hll, hml⟩ := s.lens
  have hz : (l ++ zs).length = l.length + zs.length := List.length_append
  have hsl : [(k, v0)].length = 1 := rfl
  obtain ⟨P, hP⟩ : ∃ P : Int, P = (a.length : Nat) := ⟨_, rfl⟩
  rw [← hP] at k25
  have sD : A .set (eRs (l ++ zs)) (tn P) 1 [.int .i64 v] = some (eRs ((a ++ [(k, v)] ++ b) ++ zs)) := by
    have hin : a.length < (l ++ zs).length := by omega
    have hg : (l ++ zs)[a.length]? = some (k, v0) := by
      have := getMid s.eq zs
      rw [List.getD_eq_getElem?_getD, List.getElem?_eq_getElem hin, Option.getD_some] at this
      rw [List.getElem?_eq_getElem hin, this]
    rw [hA, K.tn_, hP, Int.toNat_natCast, real_set]
    unfold rSet eRs
    rw [List.getElem?_map, hg]
    simp only [Option.map_some]
    rw [if_pos (by rfl)]
    congr 1
    show (List.map _ (l ++ zs)).set a.length [IV.str k, IV.int .i64 v] = _
    rw [s.eq]
    simp
  generalize hn : l.length = n at *
  have at1 : A .at_ P n = some (tn P) := K.at_ (by omega)
  generalize eRs (l ++ zs) = es at *
  generalize eRs ((a ++ [(k, v)] ++ b) ++ zs) = es2 at *
  refine wpV_ofH (by ((try (conv => lhs; cbv)); (repeat ((first | (rewrite [k25]) | (rewrite [at1]) | (rewrite [sD])); (try (conv => lhs; cbv)))); (exact rfl))) ?_
  (show finV _ _ _ = some _; ((try (conv => lhs; cbv)); (try (with_reducible rfl))); (try rfl))
theorem q26n {l a b : List Rw} {k : ByteArray} (s : Spl l k a [] b) (zs : List Rw) (hl : l.length ≤ 900) (g : Bool) (v : Int) :
    Qn 1002 26 [.one (.ptr 0 0), .one (.iv (.str k)), i64 v] [tbV l.length, .arr false g 2 (eRs (l ++ zs))] (bl true) [tbV (l.length + 1), .arr false true 2 (eRs ((a ++ [(k, v)] ++ b) ++ zs.drop 1))] := by
  refine playQ 1001 rfl rfl fun A call hA hcall => ?_
  obtain ⟨pl, mi, ml, nt, tn, ad, sb, K⟩ := kit hA
  obtain ⟨E, ix, sn, ll, cc, sg, D⟩ := lkit hA K z0 (fun p => [.str p.1, .int .i64 p.2]) 24
  have k25 := q25 s zs hl false 1001 (by omega)
  rw [← hcall] at k25
  rw [show (!([] : List Rw).isEmpty) = false from rfl] at k25
  obtain ⟨hll, hml⟩ := s.lens
  have hsl : ([] : List Rw).length = 0 := rfl
  have k56 := fun t => q56 l zs a.length (k, v) t false (by omega) (by omega) 1001 (by omega)
  have ht : l.take a.length = a := by rw [s.eq, List.append_assoc, List.take_left' rfl]
  have hd : l.drop a.length = b := by rw [s.eq, List.append_nil, List.drop_left' rfl]
  rw [ht, hd, show a ++ (k, v) :: b = a ++ [(k, v)] ++ b by simp] at k56
  simp only [← hcall] at k56
  generalize ((a.length : Nat) : Int) = P at *
  generalize eRs ((a ++ [(k, v)] ++ b) ++ zs.drop 1) = es2 at *
  generalize eRs (l ++ zs) = es at *
  generalize hn1 : l.length + 1 = n1 at *
  generalize l.length = n at *
  refine wpV_ofH (by ((try (conv => lhs; cbv)); (repeat ((first | (rewrite [k25]) | (rewrite [k56])); (try (conv => lhs; cbv)))); (exact rfl))) ?_
  (show finV _ _ _ = some _; ((try (conv => lhs; cbv)); (try (with_reducible rfl))); (try rfl))
theorem cutLH {A : Ar} (hA : A = real) {es : List (List IV)} {n a b : Nat} {x y : Int} (hx : x = a) (hy : y = b) (h1 : a ≤ b) (h2 : b ≤ es.length) (hn : n ≤ es.length) : A .cuts 0 n (A .ln es) (some x) (some y) none = some (a, b - a) := by
  rw [hA, hx, hy, real_cuts, real_ln]; simp [rCuts, rBound, h1, h2, hn]
theorem cutLHM {A : Ar} (hA : A = real) {es : List (List IV)} {n a b : Nat} {x y : Int} (hx : x = a) (hy : y = b) (h1 : a ≤ b) (h2 : b ≤ n) (hn : n ≤ es.length) : A .cuts 0 n (A .ln es) (some x) (some y) (some y) = some (a, b - a) := by
  rw [hA, hx, hy, real_cuts, real_ln]; simp [rCuts, rBound, h1, h2, hn]
theorem cutL {A : Ar} (hA : A = real) {es : List (List IV)} {n a : Nat} {x : Int} (hx : x = a) (h1 : a ≤ n) (hn : n ≤ es.length) : A .cuts 0 n (A .ln es) (some x) none none = some (a, n - a) := by
  rw [hA, hx, real_cuts, real_ln]; simp [rCuts, rBound, h1, hn]
theorem cutH {A : Ar} (hA : A = real) {es : List (List IV)} {n b : Nat} {y : Int} (hy : y = b) (h2 : b ≤ es.length) (hn : n ≤ es.length) : A .cuts 0 n (A .ln es) none (some y) none = some (0, b) := by
  rw [hA, hy, real_cuts, real_ln]; simp [rCuts, rBound, h2, hn]
theorem over_e (L M : List Rw) (i : Nat) : rOver (eRs L) i (eRs M) = eRs (L.take i ++ M ++ L.drop (i + M.length)) := by
  unfold rOver eRs
  rw [List.length_map, List.map_append, List.map_append, List.map_take, List.map_drop]
theorem q57 {l a b : List Rw} {x : Rw} (he : l = a ++ [x] ++ b) (zs : List Rw) (hl : l.length ≤ 900) (g : Bool) :
    Qn 2 57 [.one (.slo 0 0 l.length), .one (.iv (.int .i64 (a.length : Nat))), .one (.iv (.int .i64 ((a.length + 1 : Nat) : Int)))] [.arr false g 2 (eRs (l ++ zs))] (.one (.slo 0 0 (a ++ b).length)) [.arr false g 2 (eRs ((a ++ b) ++ z0 :: zs))] := by
  refine playQ 1 rfl rfl fun A call hA hcall => ?_
  obtain ⟨pl, mi, ml, nt, tn, ad, sb, K⟩ := kit hA
  obtain ⟨E, ix, sn, ll, cc, sg, D⟩ := lkit hA K z0 (fun p => [.str p.1, .int .i64 p.2]) 24
  have hll : l.length = a.length + 1 + b.length := by rw [he]; simp only [List.length_append, List.length_singleton]
  have hab : (a ++ b).length = a.length + b.length := List.length_append
  have hz : (eRs (l ++ zs)).length = l.length + zs.length := by rw [eRs_len, List.length_append]
  obtain ⟨L1, hL1⟩ : ∃ L1, L1 = a ++ b ++ (l ++ zs).drop (a.length + b.length) := ⟨_, rfl⟩
  have hL1l : L1.length = l.length + zs.length := by rw [hL1]; simp only [List.length_append, List.length_drop]; omega
  have h1 : rOver (eRs (l ++ zs)) a.length (eRs b) = eRs L1 := by
    rw [over_e, hL1]
    congr 2
    rw [he, List.append_assoc, List.append_assoc, List.take_left' rfl]
  have h2 : rOver (eRs L1) (a ++ b).length (eRs [z0]) = eRs ((a ++ b) ++ z0 :: zs) := by
    rw [over_e, hL1]
    have hd : (a ++ b ++ (l ++ zs).drop (a.length + b.length)).drop ((a ++ b).length + [z0].length) = zs := by
      rw [show (a ++ b).length + [z0].length = (a ++ b).length + 1 from rfl, ← List.drop_drop, List.drop_left' rfl, List.drop_drop]
      rw [List.drop_left' (by omega)]
    rw [hd, List.take_left' rfl, List.append_assoc]
    rfl
  obtain ⟨es, hes⟩ : ∃ es, es = eRs (l ++ zs) := ⟨_, rfl⟩
  obtain ⟨e1, he1⟩ : ∃ e1, e1 = eRs L1 := ⟨_, rfl⟩
  have hle : (eRs b).length = b.length := eRs_len b
  have hel : es.length = l.length + zs.length := by rw [hes]; exact hz
  have he1l : e1.length = es.length := by rw [he1, eRs_len, hL1l, hel]
  obtain ⟨I, hI⟩ : ∃ x : Int, x = (a.length : Nat) := ⟨_, rfl⟩
  obtain ⟨I1, hI1⟩ : ∃ x : Int, x = ((a.length + 1 : Nat) : Int) := ⟨_, rfl⟩
  obtain ⟨N, hN⟩ : ∃ x : Int, x = ((l.length : Nat) : Int) := ⟨_, rfl⟩
  obtain ⟨C, hC⟩ : ∃ x : Int, x = (((a ++ b).length : Nat) : Int) := ⟨_, rfl⟩
  obtain ⟨c, hc⟩ : ∃ c, c = (a ++ b).length := ⟨_, rfl⟩
  obtain ⟨n, hn⟩ : ∃ n, n = l.length := ⟨_, rfl⟩
  have c1 := cutLHM hA (es := es) (n := n) hI1 (hN.trans (by rw [hn])) (by omega) (Nat.le_refl n) (by omega)
  have c1' := cutLH hA (es := es) (n := n) hI hI1 (by omega) (by omega) (by omega)
  rw [show a.length + 1 - a.length = 1 by omega] at c1'
  have c2 := cutH hA (es := es) (n := n) hI (by omega) (by omega)
  have c3 := cutL hA (es := es) (n := n) hI1 (by omega) (by omega)
  have c4 := cutLH hA (es := e1) (n := c) (hC.trans (by rw [hc])) (hN.trans (by rw [hn])) (a := c) (b := n) (by omega) (by omega) (by omega)
  rw [show n - c = 1 by omega] at c4
  have s1 : A .seg es (a.length + 1) (n - (a.length + 1)) = eRs b := by
    rw [hA, real_seg, hes]
    unfold rSeg eRs
    rw [← List.map_drop, ← List.map_take, he]
    congr 1
    rw [List.append_assoc, List.drop_left' (by simp), List.take_left' (by omega)]
  have a1 : A .apo 24 0 a.length es (eRs b) = some (false, e1) := by
    rw [hA, real_apo, he1, ← h1, hes]
    have h4 : ¬ (0 + a.length = (eRs (l ++ zs)).length) := by omega
    have h5 : 0 + a.length + (eRs b).length ≤ (eRs (l ++ zs)).length := by omega
    unfold rApo
    rw [if_neg h4, if_pos h5, Nat.zero_add]
  have l1 : A .addN a.length (A .ln (eRs b)) = c := by rw [hA, real_addN, real_ln, hle]; omega
  have ofc : A .ofN c = C := by rw [hA, real_ofN, hC, hc]
  have ofn : A .ofN n = N := by rw [hA, real_ofN, hN, hn]
  have ov : A .over e1 c (A .zeros [.str ⟨#[]⟩, .int .i64 0] 1) = eRs ((a ++ b) ++ z0 :: zs) := by
    rw [hA, real_over, real_zeros, he1, ← h2, hc]; rfl
  rw [← hes, ← hc, ← hI, ← hI1, ← hn]
  rw [← hc] at hC
  generalize eRs ((a ++ b) ++ z0 :: zs) = e2 at *
  generalize eRs b = eb at *
  generalize hal : a.length = al at *
  generalize hal1 : al + 1 = al1 at *
  generalize hnl : n - al1 = nl at *
  apply wpV_seq; refine wpV_ofH (by ((try (conv => lhs; cbv)); (exact rfl))) ?_
  apply wpV_seq; refine wpV_ofH (by ((try (conv => lhs; cbv)); (repeat ((first | (rewrite [ofn]) | (rewrite [c1]) | (rewrite [c1'])); (try (conv => lhs; cbv)))); (exact rfl))) ?_
  apply wpV_seq; apply wpV_seq; refine wpV_ofH (by ((try (conv => lhs; cbv)); (repeat ((first | (rewrite [K.eqF]; rotate_left; focus ((try simp only [K.df, D.df, true_and, and_true]) <;> omega))); (try (conv => lhs; cbv)))); (exact rfl))) ?_
  refine wpV_ofH (by ((try (conv => lhs; cbv)); (exact rfl))) ?_
  apply wpV_seq; refine wpV_ofH (by ((try (conv => lhs; cbv)); (repeat ((first | (rewrite [ofn])); (try (conv => lhs; cbv)))); (exact rfl))) ?_
  apply wpV_seq; refine wpV_ofH (by ((try (conv => lhs; cbv)); (repeat ((first | (rewrite [c2]) | (rewrite [c3]) | (rewrite [s1]) | (rewrite [a1]) | (rewrite [l1])); (try (conv => lhs; cbv)))); (exact rfl))) ?_
  apply wpV_seq; refine wpV_ofH (by ((try (conv => lhs; cbv)); (repeat ((first | (rewrite [ofc]) | (rewrite [c4]) | (rewrite [ov])); (try (conv => lhs; cbv)))); (exact rfl))) ?_
  refine wpV_ofH (by ((try (conv => lhs; cbv)); (exact rfl))) ?_
  (show finV _ _ _ = some _; ((try (conv => lhs; cbv)); (try (with_reducible rfl))); (try rfl))
end Go.Proofs.Ytlbmknejhmmjnaa
