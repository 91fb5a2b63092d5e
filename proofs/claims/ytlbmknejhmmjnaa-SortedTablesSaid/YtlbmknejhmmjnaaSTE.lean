/- Tables by texts: a key taken out, all keys: gone through. -/
import Derived.Test.YtlbmknejhmmjnaaSTD
set_option linter.unusedSimpArgs false
set_option linter.unusedVariables false
set_option maxRecDepth 100000
set_option maxHeartbeats 1000000
set_option cbv.maxSteps 10000000
namespace Go.Proofs.Ytlbmknejhmmjnaa
open Go GoV

theorem q29n {l a b : List Rw} {k : ByteArray} (s : Spl l k a [] b) (zs : List Rw) (hl : l.length ≤ 900) (g : Bool) :
    Qn 1002 29 [.one (.ptr 0 0), .one (.iv (.str k))] [tbV l.length, .arr false g 2 (eRs (l ++ zs))] (bl false) [tbV l.length, .arr false g 2 (eRs (l ++ zs))] := by
  refine playQ 1001 rfl rfl fun A call hA hcall => ?_
  obtain ⟨pl, mi, ml, nt, tn, ad, sb, K⟩ := kit hA
  obtain ⟨E, ix, sn, ll, cc, sg, D⟩ := lkit hA K z0 (fun p => [.str p.1, .int .i64 p.2]) 24
  have k25 := q25 s zs hl false 1001 (by omega)
  rw [← hcall] at k25
  rw [show (!([] : List Rw).isEmpty) = false from rfl] at k25
  generalize ((a.length : Nat) : Int) = P at *
  generalize eRs (l ++ zs) = es at *
  generalize l.length = n at *
  refine wpV_ofH (by ((try (conv => lhs; cbv)); (repeat ((first | (rewrite [k25])); (try (conv => lhs; cbv)))); (exact rfl))) ?_
  (show finV _ _ _ = some _; ((try (conv => lhs; cbv)); (try (with_reducible rfl))); (try rfl))
theorem q29 {l a b : List Rw} {k : ByteArray} {v : Int} (s : Spl l k a [(k, v)] b) (zs : List Rw) (hl : l.length ≤ 900) (g : Bool) :
    Qn 1002 29 [.one (.ptr 0 0), .one (.iv (.str k))] [tbV l.length, .arr false g 2 (eRs (l ++ zs))] (bl true) [tbV (a ++ b).length, .arr false g 2 (eRs ((a ++ b) ++ z0 :: zs))] := by
  refine playQ 1001 rfl rfl fun A call hA hcall => ?_
  obtain ⟨pl, mi, ml, nt, tn, ad, sb, K⟩ := kit hA
  obtain ⟨E, ix, sn, ll, cc, sg, D⟩ := lkit hA K z0 (fun p => [.str p.1, .int .i64 p.2]) 24
  have k25 := q25 s zs hl false 1001 (by omega)
  have k57 := q57 s.eq zs hl false 1001 (by omega)
  rw [← hcall] at k25 k57
  rw [show (![(k, v)].isEmpty) = true from rfl] at k25
  obtain ⟨hll, hml⟩ := s.lens
  have hP1 : A .ar .add .i64 ((a.length : Nat) : Int) 1 = ((a.length + 1 : Nat) : Int) := by rw [hA, add_real (by constructor <;> omega)]; omega
  generalize ((a.length + 1 : Nat) : Int) = P1 at *
  generalize ((a.length : Nat) : Int) = P at *
  generalize eRs (l ++ zs) = es at *
  generalize eRs ((a ++ b) ++ z0 :: zs) = es2 at *
  generalize (a ++ b).length = n2 at *
  generalize l.length = n at *
  refine wpV_ofH (by ((try (conv => lhs; cbv)); (repeat ((first | (rewrite [k25]) | (rewrite [hP1]) | (rewrite [k57])); (try (conv => lhs; cbv)))); (exact rfl))) ?_
  (show finV _ _ _ = some _; ((try (conv => lhs; cbv)); (try (with_reducible rfl))); (try rfl))

theorem q33 (l zs : List Rw) (hl : l.length ≤ 900) (g : Bool) :
    Qn 1002 33 [.one (.ptr 0 0)] [tbV l.length, .arr false g 2 (eRs (l ++ zs))] (.one (.slo 2 0 l.length)) [tbV l.length, .arr false g 2 (eRs (l ++ zs)), .arr false false 1 (eSs (l.map (·.1)))] := by
  refine playQ 1001 rfl rfl fun A call hA hcall => ?_
  obtain ⟨pl, mi, ml, nt, tn, ad, sb, K⟩ := kit hA
  obtain ⟨E, ix, sn, ll, cc, sg, D⟩ := lkit hA K z0 (fun p => [.str p.1, .int .i64 p.2]) 24
  obtain ⟨E2, ix2, sn2, ll2, cc2, sg2, D2⟩ := lkit hA K (⟨#[]⟩ : ByteArray) (fun s => [.str s]) 16
  have hE : ∀ l, eRs l = E l := fun l => by rw [D.E_]; rfl
  have hE2 : ∀ l, eSs l = E2 l := fun l => by rw [D2.E_]; rfl
  have hE0 : E2 [] = [] := by rw [D2.E_]; rfl
  have hz : (l ++ zs).length = l.length + zs.length := List.length_append
  have k31 := q31 l.length (eRs (l ++ zs)) false 1001 (by omega)
  rw [← hcall, hE] at k31
  rw [hE, hE2]
  obtain ⟨N, hN⟩ : ∃ N, N = l.length := ⟨_, rfl⟩
  rw [← hN] at k31 ⊢
  obtain ⟨M, hM⟩ : ∃ M : Int, M = (N : Nat) := ⟨_, rfl⟩
  rw [← hM] at k31
  have hg : ∀ J : Int, 0 ≤ J → J < N → ix (l ++ zs) J = l.getD J.toNat z0 := fun J h1 h2 => by
    rw [D.ix_, List.getD_eq_getElem?_getD, List.getD_eq_getElem?_getD, List.getElem?_append_left (by omega)]
  generalize hL : l ++ zs = L at *
  apply wpV_seq; refine wpV_ofH (by ((try (conv => lhs; cbv)); (exact rfl))) ?_
  apply wpV_seq; refine wpV_ofH (by ((try (conv => lhs; cbv)); (exact rfl))) ?_
  apply wpV_seq; apply wpV_seq; refine wpV_ofH (by ((try (conv => lhs; cbv)); (repeat ((first | (rewrite [k31])); (try (conv => lhs; cbv)))); (exact rfl))) ?_
  apply wpV_block
  refine wpV_loop N (fun i st => ∃ (J : Int) (c : Nat) (m' : List ByteArray), st = ⟨2, [.one (.ptr 0 0), u, u, .one (.slo 2 0 c), u, u, i64 M, i64 J, u, u, u, u, u, u, u, u, u, u, u, u, u, u, u], [tbV N, .arr false g 2 (E L), .arr false false 1 (E2 m')]⟩ ∧ J = i ∧ m' = (l.take i).map (·.1) ∧ c = m'.length) (by omega) (by ((try (conv => lhs; cbv)); (try (with_reducible rfl)))) ⟨0, 0, [], by rw [hE0], rfl, rfl, rfl⟩ ?_
  rintro i hi st ⟨J, c, m', rfl, hJ, hm, hc⟩
  have hml : m'.length ≤ i := by rw [hm, List.length_map, List.length_take]; omega
  by_cases him : i < N
  · have gN := D.getN (l := L) (J := J) (by omega)
    have hx := hg J (by omega) (by omega)
    rw [hJ, Int.toNat_natCast, ← hJ] at hx
    have hk2 : (l.take (i + 1)).map (·.1) = m' ++ [(l.getD i z0).1] := by
      rw [List.take_succ_eq_append_getElem (by omega), List.getD_eq_getElem?_getD, List.getElem?_eq_getElem (by omega), List.map_append, ← hm]; rfl
    rw [← hx] at hk2
    generalize ix L J = x at *
    obtain ⟨y, v⟩ := x
    have ap := D2.apo (l := m') (x := y) (b := 16) (n := c) ⟨hc, by omega⟩
    have at1 : A .at_ J N = some (tn J) := K.at_ (by omega)
    dsimp only at gN ap hk2
    refine wpV_ofH (by ((try (conv => lhs; cbv)); (repeat ((first | (rewrite [at1]) | (rewrite [gN]) | (rewrite [ap]) | (rewrite [K.add]; rotate_left; focus ((try simp only [K.df, D.df, D2.df, true_and, and_true]) <;> omega)) | (rewrite [D2.ln]) | (rewrite [K.ltT]; rotate_left; focus ((try simp only [K.df, D.df, D2.df, true_and, and_true]) <;> omega))); (try (conv => lhs; cbv)))); (exact rfl))) ?_
    refine headQ_ofH (by ((try (conv => lhs; cbv)); (exact rfl))) ?_
    refine ⟨him, _, _, _, rfl, ?_, ?_, ?_⟩
    · rw [K.pl_]; omega
    · rw [hk2, D2.sn_]
    · rw [D2.ll_]
  · obtain rfl : i = N := by omega
    rw [List.take_of_length_le (by omega)] at hm
    subst hm
    rw [List.length_map, ← hN] at hc
    rw [← hc]
    refine wpV_ofH (by ((try (conv => lhs; cbv)); (repeat ((first | (rewrite [K.ltF]; rotate_left; focus ((try simp only [K.df, D.df, D2.df, true_and, and_true]) <;> omega))); (try (conv => lhs; cbv)))); (exact rfl))) ?_
    show wpV _ _ _ _ _ _
    refine wpV_ofH (by ((try (conv => lhs; cbv)); (exact rfl))) ?_
    (show finV _ _ _ = some _; ((try (conv => lhs; cbv)); (try (with_reducible rfl))); (try rfl))
theorem Spl.mem {l a m b : List Rw} {k : ByteArray} (s : Spl l k a m b) : memS k (l.map (·.1)) = !m.isEmpty := by
  unfold memS
  rw [s.eq, List.map_append, List.map_append, List.any_append, List.any_append]
  have h1 : (a.map (·.1)).any (fun x => decide (k = x)) = false := by
    rw [List.any_eq_false]
    intro x hx
    obtain ⟨y, hy, rfl⟩ := List.mem_map.1 hx
    rw [decide_eq_false (fun e => ltS_ne (s.lo y hy) e.symm)]; decide
  have h2 : (b.map (·.1)).any (fun x => decide (k = x)) = false := by
    rw [List.any_eq_false]
    intro x hx
    obtain ⟨y, hy, rfl⟩ := List.mem_map.1 hx
    rw [decide_eq_false (ltS_ne (s.hi y hy))]; decide
  rw [h1, h2]
  rcases s.mid with h | ⟨v, h⟩ <;> rw [h] <;> simp
end Go.Proofs.Ytlbmknejhmmjnaa
