/- Lists of events behind bytes: gone through, and the reference's. -/
import Derived.Test.YtlljgefgbglmbaaELB
set_option linter.unusedSimpArgs false
set_option linter.unusedVariables false
set_option maxRecDepth 100000
set_option maxHeartbeats 1000000
set_option cbv.maxSteps 10000000
namespace Go.Proofs.Ytlljgefgbglmbaa
open Go GoV

/-- An event's bytes, if it may be. -/
def evB' (e : Ev) : List Nat := if chk e = 0 then evB e else []
def evsB (l : List Ev) : Nat → List Nat
  | 0 => []
  | i + 1 => evsB l i ++ evB' (l.getD i zeroEv)
def evsA (l : List Ev) : List Nat := enc l.length ++ evsB l l.length
theorem evB'_len (e : Ev) : (evB' e).length ≤ 3000 := by
  unfold evB'
  split
  · rename_i hc
    obtain ⟨c1, c2, c3, c4, c5, c6, c7, c8, c9009, c9010⟩ := chk_0 hc
    have nm := name_size c4
    obtain ⟨g1, g2⟩ := gone_valid c5
    have len : ∀ x, (enc x).length ≤ 9 := fun x => by rw [enc_len]; have := nd_le x; omega
    have t1 := textB_len e.doc
    have t2 := textB_len e.txt
    have d := dsB_len e.gone e.gone.length
    have a1 := len e.d.1.toNat
    have a2 := len e.d.2.toNat
    have a3 := len e.t.toNat
    have a4 := len e.k.toNat
    have a5 := len e.f.toNat
    have a6 := len e.gone.length
    unfold evB hdB
    simp only [List.length_append]
    omega
  · simp
theorem evsB_len (l : List Ev) (i : Nat) : (evsB l i).length ≤ 3000 * i := by
  induction i with
  | zero => simp [evsB]
  | succ i ih =>
    simp only [evsB, List.length_append]
    have := evB'_len (l.getD i zeroEv)
    omega
def evE (e : Ev) : List IV := evI false 2 e
theorem put70 (e : Ev) (hd : e.doc.size ≤ 1000000000000000) (hg : e.gone.length ≤ 1000) (a : List Nat) (ha : a.length ≤ 199999970000000) : ∃ k, ∀ t, Pn k 61 [.one (.iv (.sl t 1 (by8 a))), evF false 2 e] [] (.one (.slo 0 0 (a ++ evB' e).length)) [.arr false false 1 (by8 (a ++ evB' e))] := by
  unfold evB'
  by_cases hc : chk e = 0
  · rw [if_pos hc]
    obtain ⟨k, hk⟩ := n61 a true 1 (.inr rfl) e (by omega) hc
    obtain ⟨k2, hk2⟩ := n61 a false 1 (.inr rfl) e (by omega) hc
    exact ⟨k + k2, fun t m hm => by cases t; exact hk2 false 2 (.inl rfl) m (by omega); exact hk false 2 (.inl rfl) m (by omega)⟩
  · rw [if_neg hc, List.append_nil]
    obtain ⟨k, hk⟩ := n61bad a true 1 (.inr rfl) e hd hg (by omega) hc
    obtain ⟨k2, hk2⟩ := n61bad a false 1 (.inr rfl) e hd hg (by omega) hc
    exact ⟨k + k2, fun t m hm => by cases t; exact hk2 false 2 (.inl rfl) m (by omega); exact hk false 2 (.inl rfl) m (by omega)⟩
theorem put111 (e : Ev) (hd : e.doc.size ≤ 1000000000000000) (hg : e.gone.length ≤ 1000) (a : List Nat) (ha : a.length ≤ 199999970000000) : ∃ k, ∀ t, Pn k 68 [.one (.iv (.sl t 1 (by8 a))), evF false 2 e] [] (.one (.slo 0 0 (a ++ evB' e).length)) [.arr false false 1 (by8 (a ++ evB' e))] := by
  unfold evB'
  by_cases hc : chk e = 0
  · rw [if_pos hc]
    obtain ⟨k, hk⟩ := n68 a true 1 (.inr rfl) e (by omega) hc
    obtain ⟨k2, hk2⟩ := n68 a false 1 (.inr rfl) e (by omega) hc
    exact ⟨k + k2, fun t m hm => by cases t; exact hk2 false 2 (.inl rfl) m (by omega); exact hk false 2 (.inl rfl) m (by omega)⟩
  · rw [if_neg hc, List.append_nil]
    obtain ⟨k, hk⟩ := n68bad a true 1 (.inr rfl) e hd hg (by omega) hc
    obtain ⟨k2, hk2⟩ := n68bad a false 1 (.inr rfl) e hd hg (by omega) hc
    exact ⟨k + k2, fun t m hm => by cases t; exact hk2 false 2 (.inl rfl) m (by omega); exact hk false 2 (.inl rfl) m (by omega)⟩
/-- For all at once. -/
theorem choose_le {P : Nat → Nat → Prop} : ∀ (n : Nat), (∀ i, i < n → ∃ k, ∀ m, k ≤ m → P i m) → ∃ k, ∀ i, i < n → ∀ m, k ≤ m → P i m
  | 0, _ => ⟨0, fun i hi => by omega⟩
  | n + 1, h => by
    obtain ⟨k1, h1⟩ := choose_le n fun i hi => h i (by omega)
    obtain ⟨k2, h2⟩ := h n (by omega)
    refine ⟨k1 + k2, fun i hi m hm => ?_⟩
    by_cases e : i = n
    · subst e; exact h2 m (by omega)
    · exact h1 i (by omega) m (by omega)
theorem n23 (B : List Nat) (t t2 : Bool) (z : Nat) (hz : z = 0 ∨ z = 1) (l : List Ev) (hl : l.length ≤ 1000) (hd : ∀ e, e ∈ l → e.doc.size ≤ 1000000000000000 ∧ e.gone.length ≤ 1000) (hB : B.length ≤ 199999960000000) :
    ∃ k, Pn k 23 [.one (.iv (.sl t z (by8 B))), .one (.iv (.sl t2 8 (l.map evE)))] [] (.one (.slo 0 0 (B ++ evsA l).length)) [.arr false false 1 (by8 (B ++ evsA l))] := by
  obtain ⟨C, hC⟩ : ∃ C : Nat → List Nat, ∀ i, C i = B ++ (enc l.length ++ evsB l i) := ⟨_, fun _ => rfl⟩
  have cl : ∀ i, i ≤ l.length → (C i).length ≤ 199999970000000 := fun i hi => by
    rw [hC, List.length_append, List.length_append, enc_len]; have := nd_le l.length; have := evsB_len l i; omega
  obtain ⟨kp, hp⟩ := choose_le (P := fun i m => ∀ t, play real (lookT tab) (fun _ => clonePr clones) m 61 [.one (.iv (.sl t 1 (by8 (C i)))), evF false 2 (l.getD i zeroEv)] [] = some (.one (.slo 0 0 (C (i + 1)).length), [.arr false false 1 (by8 (C (i + 1)))])) l.length (fun i hi => by
    have hm : l.getD i zeroEv ∈ l := by rw [List.getD_eq_getElem?_getD, List.getElem?_eq_getElem hi]; exact List.getElem_mem hi
    have hh := hd _ hm
    obtain ⟨k, hk⟩ := put70 (l.getD i zeroEv) hh.1 hh.2 (C i) (cl i (by omega))
    refine ⟨k, fun m hm t => ?_⟩
    have := hk t m hm
    rw [show C (i + 1) = C i ++ evB' (l.getD i zeroEv) by rw [hC, hC, evsB]; simp only [List.append_assoc]]
    exact this)
  refine ⟨kp + 1101, playN (kp + 1100) rfl rfl fun A call hA hcall => ?_⟩
  obtain ⟨pl, mi, ml, nt, tn, ad, sb, K⟩ := kit hA
  obtain ⟨E, ix0, sn0, ll0, cc0, sg0, D⟩ := lkit hA K ((0, 0) : Int × Int) (fun p => [.int .i64 p.1, .int .i64 p.2]) 16
  obtain ⟨EX, ix, sn, ll, cc, sg, X⟩ := lkit hA K zeroEv (fun x => [.int .i64 x.d.1, .int .i64 x.d.2, .int .i64 x.t, .int .i64 x.k, .str x.doc, .int .i64 x.f, .str x.txt, .sl false 2 (E x.gone)]) 96
  have hEX : l.map evE = EX l := by
    rw [X.E_]
    exact List.map_congr_left fun x _ => by rw [D.E_]; rfl
  have hE : ∀ l, eDs l = E l := fun l => by rw [D.E_]; rfl
  rw [hEX]
  obtain ⟨M, hM⟩ : ∃ M : Int, M = nt (ll l) := ⟨_, rfl⟩
  have hMl : M = l.length := by rw [hM, K.nt_, X.ll_]
  have ln : A .len (EX l) = M := by rw [X.len, hM]
  have k0 := n21 B t z hz (x := l.length) (by omega) (by omega) (kp + 1100) (by omega)
  rw [← hMl, show B ++ enc l.length = C 0 by rw [hC]; simp [evsB], ← hcall] at k0
  have hpp : ∀ i, i < l.length → ∀ t, call 61 [.one (.iv (.sl t 1 (by8 (C i)))), evF false 2 (l.getD i zeroEv)] [] = some (.one (.slo 0 0 (C (i + 1)).length), [.arr false false 1 (by8 (C (i + 1)))]) := fun i hi t => by rw [hcall]; exact hp i hi _ (by omega) t
  have sF : ∀ i, A .seg (by8 (C i)) 0 (C i).length = by8 (C i) := fun i => seg8 hA _
  rw [show B ++ evsA l = C l.length by rw [hC]; rfl]
  obtain ⟨F, hF⟩ : ∃ F : Nat → List (List IV), ∀ i, F i = by8 (C i) := ⟨_, fun _ => rfl⟩
  obtain ⟨N, hN⟩ : ∃ N : Nat → Nat, ∀ i, N i = (C i).length := ⟨_, fun _ => rfl⟩
  simp only [← hF, ← hN] at k0 hpp sF ⊢
  generalize by8 B = es0 at *
  apply wpV_seq; refine wpV_ofH (by ((try (conv => lhs; cbv)); (exact rfl))) ?_
  apply wpV_seq; refine wpV_ofH (by ((try (conv => lhs; cbv)); (repeat ((first | (rewrite [ln]) | (rewrite [k0])); (try (conv => lhs; cbv)))); (exact rfl))) ?_
  apply wpV_seq; apply wpV_seq; refine wpV_ofH (by ((try (conv => lhs; cbv)); (repeat ((first | (rewrite [ln])); (try (conv => lhs; cbv)))); (exact rfl))) ?_
  apply wpV_block
  refine wpV_loop l.length (fun i st => ∃ J : Int, st = ⟨0, [u, u, u, u, u, .one (.slo 0 0 (N i)), u, u, u, u, u, u, .one (.iv (.sl t2 8 (EX l))), i64 M, i64 J, u, u, u, u, u, u, u, u], [.arr false false 1 (F i)]⟩ ∧ J = i) (by omega) (by ((try (conv => lhs; cbv)); (try (with_reducible rfl)))) ⟨0, rfl, rfl⟩ ?_
  rintro i hi st ⟨J, rfl, hJ⟩
  by_cases him : i < l.length
  · have hx : ix l J = l.getD i zeroEv := by rw [X.ix_, hJ]; rfl
    have k1 := hpp i him
    have sf := sF i
    rw [← hx] at k1
    have gx := X.get (l := l) (J := J) (by omega)
    generalize ix l J = e at *
    obtain ⟨⟨r, n⟩, tt, kd, doc, f, txt, gone⟩ := e
    dsimp only [evF] at k1 gx
    simp only [hE] at k1
    generalize N (i + 1) = N1 at *
    generalize N i = N0 at *
    generalize F (i + 1) = F1 at *
    generalize F i = F0 at *
    refine wpV_ofH (by ((try (conv => lhs; cbv)); (repeat ((first | (rewrite [gx]) | (rewrite [sf]) | (rewrite [k1]) | (rewrite [K.add]; rotate_left; focus ((try simp only [K.df, D.df, X.df, true_and, and_true]) <;> omega)) | (rewrite [K.ltT]; rotate_left; focus ((try simp only [K.df, D.df, X.df, true_and, and_true]) <;> omega))); (try (conv => lhs; cbv)))); (exact rfl))) ?_
    refine headQ_ofH (by ((try (conv => lhs; cbv)); (exact rfl))) ?_
    refine ⟨him, _, rfl, ?_⟩
    rw [K.pl_]; omega
  · obtain rfl : i = l.length := by omega
    generalize N l.length = N0 at *
    generalize F l.length = F0 at *
    refine wpV_ofH (by ((try (conv => lhs; cbv)); (repeat ((first | (rewrite [K.ltF]; rotate_left; focus ((try simp only [K.df, D.df, X.df, true_and, and_true]) <;> omega))); (try (conv => lhs; cbv)))); (exact rfl))) ?_
    show wpV _ _ _ _ _ _
    refine wpV_ofH (by ((try (conv => lhs; cbv)); (exact rfl))) ?_
    (show finV _ _ _ = some _; ((try (conv => lhs; cbv)); (try (with_reducible rfl))); (try rfl))
theorem n29 (B : List Nat) (t t2 : Bool) (z : Nat) (hz : z = 0 ∨ z = 1) (l : List Ev) (hl : l.length ≤ 1000) (hd : ∀ e, e ∈ l → e.doc.size ≤ 1000000000000000 ∧ e.gone.length ≤ 1000) (hB : B.length ≤ 199999960000000) :
    ∃ k, Pn k 29 [.one (.iv (.sl t z (by8 B))), .one (.iv (.sl t2 8 (l.map evE)))] [] (.one (.slo 0 0 (B ++ evsA l).length)) [.arr false false 1 (by8 (B ++ evsA l))] := by
  obtain ⟨C, hC⟩ : ∃ C : Nat → List Nat, ∀ i, C i = B ++ (enc l.length ++ evsB l i) := ⟨_, fun _ => rfl⟩
  have cl : ∀ i, i ≤ l.length → (C i).length ≤ 199999970000000 := fun i hi => by
    rw [hC, List.length_append, List.length_append, enc_len]; have := nd_le l.length; have := evsB_len l i; omega
  obtain ⟨kp, hp⟩ := choose_le (P := fun i m => ∀ t, play real (lookT tab) (fun _ => clonePr clones) m 68 [.one (.iv (.sl t 1 (by8 (C i)))), evF false 2 (l.getD i zeroEv)] [] = some (.one (.slo 0 0 (C (i + 1)).length), [.arr false false 1 (by8 (C (i + 1)))])) l.length (fun i hi => by
    have hm : l.getD i zeroEv ∈ l := by rw [List.getD_eq_getElem?_getD, List.getElem?_eq_getElem hi]; exact List.getElem_mem hi
    have hh := hd _ hm
    obtain ⟨k, hk⟩ := put111 (l.getD i zeroEv) hh.1 hh.2 (C i) (cl i (by omega))
    refine ⟨k, fun m hm t => ?_⟩
    have := hk t m hm
    rw [show C (i + 1) = C i ++ evB' (l.getD i zeroEv) by rw [hC, hC, evsB]; simp only [List.append_assoc]]
    exact this)
  refine ⟨kp + 1101, playN (kp + 1100) rfl rfl fun A call hA hcall => ?_⟩
  obtain ⟨pl, mi, ml, nt, tn, ad, sb, K⟩ := kit hA
  obtain ⟨E, ix0, sn0, ll0, cc0, sg0, D⟩ := lkit hA K ((0, 0) : Int × Int) (fun p => [.int .i64 p.1, .int .i64 p.2]) 16
  obtain ⟨EX, ix, sn, ll, cc, sg, X⟩ := lkit hA K zeroEv (fun x => [.int .i64 x.d.1, .int .i64 x.d.2, .int .i64 x.t, .int .i64 x.k, .str x.doc, .int .i64 x.f, .str x.txt, .sl false 2 (E x.gone)]) 96
  have hEX : l.map evE = EX l := by
    rw [X.E_]
    exact List.map_congr_left fun x _ => by rw [D.E_]; rfl
  have hE : ∀ l, eDs l = E l := fun l => by rw [D.E_]; rfl
  rw [hEX]
  obtain ⟨M, hM⟩ : ∃ M : Int, M = nt (ll l) := ⟨_, rfl⟩
  have hMl : M = l.length := by rw [hM, K.nt_, X.ll_]
  have ln : A .len (EX l) = M := by rw [X.len, hM]
  have k0 := n27 B t z hz M (by omega) (by omega) (kp + 1100) (by omega)
  rw [show M.toNat = l.length by omega, show B ++ enc l.length = C 0 by rw [hC]; simp [evsB], ← hcall] at k0
  have hpp : ∀ i, i < l.length → ∀ t, call 68 [.one (.iv (.sl t 1 (by8 (C i)))), evF false 2 (l.getD i zeroEv)] [] = some (.one (.slo 0 0 (C (i + 1)).length), [.arr false false 1 (by8 (C (i + 1)))]) := fun i hi t => by rw [hcall]; exact hp i hi _ (by omega) t
  have sF : ∀ i, A .seg (by8 (C i)) 0 (C i).length = by8 (C i) := fun i => seg8 hA _
  rw [show B ++ evsA l = C l.length by rw [hC]; rfl]
  obtain ⟨F, hF⟩ : ∃ F : Nat → List (List IV), ∀ i, F i = by8 (C i) := ⟨_, fun _ => rfl⟩
  obtain ⟨N, hN⟩ : ∃ N : Nat → Nat, ∀ i, N i = (C i).length := ⟨_, fun _ => rfl⟩
  simp only [← hF, ← hN] at k0 hpp sF ⊢
  generalize by8 B = es0 at *
  apply wpV_seq; refine wpV_ofH (by ((try (conv => lhs; cbv)); (exact rfl))) ?_
  apply wpV_seq; refine wpV_ofH (by ((try (conv => lhs; cbv)); (repeat ((first | (rewrite [ln]) | (rewrite [k0])); (try (conv => lhs; cbv)))); (exact rfl))) ?_
  apply wpV_seq; apply wpV_seq; refine wpV_ofH (by ((try (conv => lhs; cbv)); (repeat ((first | (rewrite [ln])); (try (conv => lhs; cbv)))); (exact rfl))) ?_
  apply wpV_block
  refine wpV_loop l.length (fun i st => ∃ J : Int, st = ⟨0, [u, u, u, u, u, .one (.slo 0 0 (N i)), u, u, u, u, u, u, .one (.iv (.sl t2 8 (EX l))), i64 M, i64 J, u, u, u, u, u, u, u, u], [.arr false false 1 (F i)]⟩ ∧ J = i) (by omega) (by ((try (conv => lhs; cbv)); (try (with_reducible rfl)))) ⟨0, rfl, rfl⟩ ?_
  rintro i hi st ⟨J, rfl, hJ⟩
  by_cases him : i < l.length
  · have hx : ix l J = l.getD i zeroEv := by rw [X.ix_, hJ]; rfl
    have k1 := hpp i him
    have sf := sF i
    rw [← hx] at k1
    have gx := X.get (l := l) (J := J) (by omega)
    generalize ix l J = e at *
    obtain ⟨⟨r, n⟩, tt, kd, doc, f, txt, gone⟩ := e
    dsimp only [evF] at k1 gx
    simp only [hE] at k1
    generalize N (i + 1) = N1 at *
    generalize N i = N0 at *
    generalize F (i + 1) = F1 at *
    generalize F i = F0 at *
    refine wpV_ofH (by ((try (conv => lhs; cbv)); (repeat ((first | (rewrite [gx]) | (rewrite [sf]) | (rewrite [k1]) | (rewrite [K.add]; rotate_left; focus ((try simp only [K.df, D.df, X.df, true_and, and_true]) <;> omega)) | (rewrite [K.ltT]; rotate_left; focus ((try simp only [K.df, D.df, X.df, true_and, and_true]) <;> omega))); (try (conv => lhs; cbv)))); (exact rfl))) ?_
    refine headQ_ofH (by ((try (conv => lhs; cbv)); (exact rfl))) ?_
    refine ⟨him, _, rfl, ?_⟩
    rw [K.pl_]; omega
  · obtain rfl : i = l.length := by omega
    generalize N l.length = N0 at *
    generalize F l.length = F0 at *
    refine wpV_ofH (by ((try (conv => lhs; cbv)); (repeat ((first | (rewrite [K.ltF]; rotate_left; focus ((try simp only [K.df, D.df, X.df, true_and, and_true]) <;> omega))); (try (conv => lhs; cbv)))); (exact rfl))) ?_
    show wpV _ _ _ _ _ _
    refine wpV_ofH (by ((try (conv => lhs; cbv)); (exact rfl))) ?_
    (show finV _ _ _ = some _; ((try (conv => lhs; cbv)); (try (with_reducible rfl))); (try rfl))
end Go.Proofs.Ytlljgefgbglmbaa
