/- Which events may be, and their bytes: gone through. -/
import Derived.Test.YtlljgefgbglmbaaEVC
set_option linter.unusedSimpArgs false
set_option linter.unusedVariables false
set_option maxRecDepth 100000
set_option maxHeartbeats 1000000
set_option cbv.maxSteps 10000000
namespace Go.Proofs.Ytlljgefgbglmbaa
open Go GoV

structure Ev where
  d : Int × Int
  t : Int
  k : Int
  doc : ByteArray
  f : Int
  txt : ByteArray
  gone : List (Int × Int)
def evI (b : Bool) (z : Nat) (e : Ev) : List IV := [.int .i64 e.d.1, .int .i64 e.d.2, .int .i64 e.t, .int .i64 e.k, .str e.doc, .int .i64 e.f, .str e.txt, .sl b z (eDs e.gone)]
abbrev evF (b : Bool) (z : Nat) (e : Ev) : FV := .agg [.iv (.int .i64 e.d.1), .iv (.int .i64 e.d.2), .iv (.int .i64 e.t), .iv (.int .i64 e.k), .iv (.str e.doc), .iv (.int .i64 e.f), .iv (.str e.txt), .iv (.sl b z (eDs e.gone))]
def chk (e : Ev) : Int := if validB e.d = false ∨ e.t < 1 ∨ 1099511627776 < e.t ∨ nameB e.doc = false ∨ goneB e.d e.gone = false then 1 else if e.k = 2 ∧ e.f = 0 ∧ e.txt.size = 0 then 0 else if e.k ≠ 1 then 1 else textC e.f e.txt
theorem n33 (e : Ev) (hd : e.doc.size ≤ 1000000000000000) (hg : e.gone.length ≤ 1000) : ∃ k, ∀ b z, (z = 2 ∨ z = 0 ∧ e.gone = []) → Pn k 33 [evF b z e] [] (i64 (chk e)) [] := by
  obtain ⟨k, hk⟩ := n74 e.f e.txt
  refine ⟨k + 3000, fun b z hz => playN (k + 2999) rfl rfl fun A call hA hcall => ?_⟩
  obtain ⟨pl, mi, ml, nt, tn, ad, sb, K⟩ := kit hA
  obtain ⟨E, ix, sn, ll, cc, sg, D⟩ := lkit hA K ((0, 0) : Int × Int) (fun p => [.int .i64 p.1, .int .i64 p.2]) 16
  obtain ⟨⟨r, n⟩, t, kd, doc, f, txt, gone⟩ := e
  have k71 := n71 r n (k + 2999) (by omega)
  have k72 := n72 doc hd (k + 2999) (by omega)
  have k73 := n73 r n gone b z hz (by dsimp only at hg; omega) (k + 2999) (by dsimp only at hg; omega)
  have k74 := hk (k + 2999) (by omega)
  have se := scE hA txt
  obtain ⟨q, hq⟩ : ∃ q, q = decide (txt.size = 0) := ⟨_, rfl⟩
  rw [← hq] at se
  (conv at se => lhs; arg 4; cbv)
  rw [← hcall] at k71 k72 k73 k74
  dsimp only [evF, dotF, chk] at *
  generalize eDs gone = gs at *
  generalize hv : validB (r, n) = v at *
  generalize hn : nameB doc = nb at *
  generalize hgb : goneB (r, n) gone = gb at *
  generalize textC f txt = tc at *
  cases v with
  | false =>
    rw [if_pos (.inl rfl)]
    refine wpV_ofH (by ((try (conv => lhs; cbv)); (repeat ((first | (rewrite [k71])); (try (conv => lhs; cbv)))); (exact rfl))) ?_
    (show finV _ _ _ = some _; ((try (conv => lhs; cbv)); (try (with_reducible rfl))); (try rfl))
  | true =>
    by_cases h1 : t < 1
    · rw [if_pos (.inr (.inl h1))]
      refine wpV_ofH (by ((try (conv => lhs; cbv)); (repeat ((first | (rewrite [k71]) | (rewrite [K.ltT]; rotate_left; focus ((try simp only [K.df, D.df, true_and, and_true]) <;> omega))); (try (conv => lhs; cbv)))); (exact rfl))) ?_
      (show finV _ _ _ = some _; ((try (conv => lhs; cbv)); (try (with_reducible rfl))); (try rfl))
    · by_cases h2 : 1099511627776 < t
      · rw [if_pos (.inr (.inr (.inl h2)))]
        refine wpV_ofH (by ((try (conv => lhs; cbv)); (repeat ((first | (rewrite [k71]) | (rewrite [K.gtT]; rotate_left; focus ((try simp only [K.df, D.df, true_and, and_true]) <;> omega)) | (rewrite [K.ltF]; rotate_left; focus ((try simp only [K.df, D.df, true_and, and_true]) <;> omega))); (try (conv => lhs; cbv)))); (exact rfl))) ?_
        (show finV _ _ _ = some _; ((try (conv => lhs; cbv)); (try (with_reducible rfl))); (try rfl))
      · cases nb with
        | false =>
          rw [if_pos (.inr (.inr (.inr (.inl rfl))))]
          refine wpV_ofH (by ((try (conv => lhs; cbv)); (repeat ((first | (rewrite [k71]) | (rewrite [k72]) | (rewrite [K.ltF]; rotate_left; focus ((try simp only [K.df, D.df, true_and, and_true]) <;> omega)) | (rewrite [K.gtF]; rotate_left; focus ((try simp only [K.df, D.df, true_and, and_true]) <;> omega))); (try (conv => lhs; cbv)))); (exact rfl))) ?_
          (show finV _ _ _ = some _; ((try (conv => lhs; cbv)); (try (with_reducible rfl))); (try rfl))
        | true =>
          cases gb with
          | false =>
            rw [if_pos (.inr (.inr (.inr (.inr rfl))))]
            refine wpV_ofH (by ((try (conv => lhs; cbv)); (repeat ((first | (rewrite [k71]) | (rewrite [k72]) | (rewrite [k73]) | (rewrite [K.ltF]; rotate_left; focus ((try simp only [K.df, D.df, true_and, and_true]) <;> omega)) | (rewrite [K.gtF]; rotate_left; focus ((try simp only [K.df, D.df, true_and, and_true]) <;> omega))); (try (conv => lhs; cbv)))); (exact rfl))) ?_
            (show finV _ _ _ = some _; ((try (conv => lhs; cbv)); (try (with_reducible rfl))); (try rfl))
          | true =>
            rw [if_neg (by rintro (h | h | h | h | h) <;> first | cases h | omega)]
            by_cases h3 : kd = 2
            · by_cases h4 : f = 0
              · cases q with
                | true =>
                  have h5 := of_decide_eq_true hq.symm
                  rw [if_pos ⟨h3, h4, h5⟩]
                  refine wpV_ofH (by ((try (conv => lhs; cbv)); (repeat ((first | (rewrite [k71]) | (rewrite [k72]) | (rewrite [k73]) | (rewrite [se]) | (rewrite [K.eqT]; rotate_left; focus ((try simp only [K.df, D.df, true_and, and_true]) <;> omega)) | (rewrite [K.ltF]; rotate_left; focus ((try simp only [K.df, D.df, true_and, and_true]) <;> omega)) | (rewrite [K.gtF]; rotate_left; focus ((try simp only [K.df, D.df, true_and, and_true]) <;> omega))); (try (conv => lhs; cbv)))); (exact rfl))) ?_
                  (show finV _ _ _ = some _; ((try (conv => lhs; cbv)); (try (with_reducible rfl))); (try rfl))
                | false =>
                  have h5 := of_decide_eq_false hq.symm
                  rw [if_neg (fun h => h5 h.2.2), if_pos (by omega)]
                  refine wpV_ofH (by ((try (conv => lhs; cbv)); (repeat ((first | (rewrite [k71]) | (rewrite [k72]) | (rewrite [k73]) | (rewrite [se]) | (rewrite [K.eqT]; rotate_left; focus ((try simp only [K.df, D.df, true_and, and_true]) <;> omega)) | (rewrite [K.neT]; rotate_left; focus ((try simp only [K.df, D.df, true_and, and_true]) <;> omega)) | (rewrite [K.ltF]; rotate_left; focus ((try simp only [K.df, D.df, true_and, and_true]) <;> omega)) | (rewrite [K.gtF]; rotate_left; focus ((try simp only [K.df, D.df, true_and, and_true]) <;> omega))); (try (conv => lhs; cbv)))); (exact rfl))) ?_
                  (show finV _ _ _ = some _; ((try (conv => lhs; cbv)); (try (with_reducible rfl))); (try rfl))
              · rw [if_neg (fun h => h4 h.2.1), if_pos (by omega)]
                refine wpV_ofH (by ((try (conv => lhs; cbv)); (repeat ((first | (rewrite [k71]) | (rewrite [k72]) | (rewrite [k73]) | (rewrite [K.eqT]; rotate_left; focus ((try simp only [K.df, D.df, true_and, and_true]) <;> omega)) | (rewrite [K.neT]; rotate_left; focus ((try simp only [K.df, D.df, true_and, and_true]) <;> omega)) | (rewrite [K.ltF]; rotate_left; focus ((try simp only [K.df, D.df, true_and, and_true]) <;> omega)) | (rewrite [K.gtF]; rotate_left; focus ((try simp only [K.df, D.df, true_and, and_true]) <;> omega)) | (rewrite [K.eqF]; rotate_left; focus ((try simp only [K.df, D.df, true_and, and_true]) <;> omega))); (try (conv => lhs; cbv)))); (exact rfl))) ?_
                (show finV _ _ _ = some _; ((try (conv => lhs; cbv)); (try (with_reducible rfl))); (try rfl))
            · rw [if_neg (fun h => h3 h.1)]
              by_cases h4 : kd = 1
              · rw [if_neg (by omega)]
                refine wpV_ofH (by ((try (conv => lhs; cbv)); (repeat ((first | (rewrite [k71]) | (rewrite [k72]) | (rewrite [k73]) | (rewrite [k74]) | (rewrite [K.ltF]; rotate_left; focus ((try simp only [K.df, D.df, true_and, and_true]) <;> omega)) | (rewrite [K.gtF]; rotate_left; focus ((try simp only [K.df, D.df, true_and, and_true]) <;> omega)) | (rewrite [K.eqF]; rotate_left; focus ((try simp only [K.df, D.df, true_and, and_true]) <;> omega)) | (rewrite [K.neF]; rotate_left; focus ((try simp only [K.df, D.df, true_and, and_true]) <;> omega))); (try (conv => lhs; cbv)))); (exact rfl))) ?_
                (show finV _ _ _ = some _; ((try (conv => lhs; cbv)); (try (with_reducible rfl))); (try rfl))
              · rw [if_pos h4]
                refine wpV_ofH (by ((try (conv => lhs; cbv)); (repeat ((first | (rewrite [k71]) | (rewrite [k72]) | (rewrite [k73]) | (rewrite [K.neT]; rotate_left; focus ((try simp only [K.df, D.df, true_and, and_true]) <;> omega)) | (rewrite [K.ltF]; rotate_left; focus ((try simp only [K.df, D.df, true_and, and_true]) <;> omega)) | (rewrite [K.gtF]; rotate_left; focus ((try simp only [K.df, D.df, true_and, and_true]) <;> omega)) | (rewrite [K.eqF]; rotate_left; focus ((try simp only [K.df, D.df, true_and, and_true]) <;> omega))); (try (conv => lhs; cbv)))); (exact rfl))) ?_
                (show finV _ _ _ = some _; ((try (conv => lhs; cbv)); (try (with_reducible rfl))); (try rfl))
/-- What an event that may be is like. -/
theorem chk_0 {e : Ev} (h : chk e = 0) : validB e.d = true ∧ 1 ≤ e.t ∧ e.t ≤ 1099511627776 ∧ nameB e.doc = true ∧ goneB e.d e.gone = true ∧ 0 ≤ e.f ∧ e.f ≤ 4 ∧ e.txt.size ≤ 160 ∧ 1 ≤ e.k ∧ e.k ≤ 2 := by
  unfold chk at h
  split at h
  · cases h
  · rename_i h1
    have a : validB e.d = true := by cases hh : validB e.d with | true => rfl | false => exact absurd (.inl hh) h1
    have b : nameB e.doc = true := by cases hh : nameB e.doc with | true => rfl | false => exact absurd (.inr (.inr (.inr (.inl hh)))) h1
    have c : goneB e.d e.gone = true := by cases hh : goneB e.d e.gone with | true => rfl | false => exact absurd (.inr (.inr (.inr (.inr hh)))) h1
    have d : 1 ≤ e.t := by by_cases hh : e.t < 1; exact absurd (.inr (.inl hh)) h1; omega
    have d' : e.t ≤ 1099511627776 := by by_cases hh : 1099511627776 < e.t; exact absurd (.inr (.inr (.inl hh))) h1; omega
    refine ⟨a, d, d', b, c, ?_⟩
    split at h
    · rename_i h2; omega
    · split at h
      · cases h
      · rename_i h2 h3
        unfold textC at h
        split at h
        · cases h
        · split at h
          · cases h
          · omega
theorem gone_valid {own : Int × Int} {l : List (Int × Int)} (h : goneB own l = true) : l.length ≤ 120 ∧ ∀ i, i < l.length → validB (l.getD i (0, 0)) = true := by
  unfold goneB at h
  simp only [Bool.and_eq_true, decide_eq_true_eq] at h
  refine ⟨h.2, ?_⟩
  have key : ∀ k i, gGo own l k i = true → ∀ j, i ≤ j → j < i + k → validB (l.getD j (0, 0)) = true := by
    intro k
    induction k with
    | zero => intro i _ j h1 h2; omega
    | succ k ih =>
      intro i hg j h1 h2
      unfold gGo at hg
      split at hg
      · cases hg
      · rename_i hn
        by_cases hji : j = i
        · subst hji
          cases hh : validB (l.getD j (0, 0)) with
          | true => rfl
          | false => exact absurd (.inl hh) hn
        · exact ih (i + 1) hg j (by omega) (by omega)
  intro i hi
  exact key _ 0 h.1 i (by omega) (by omega)
theorem valid_0 {d : Int × Int} (h : validB d = true) : 0 ≤ d.1 ∧ d.1 < 64 ∧ 1 ≤ d.2 ∧ d.2 ≤ 1073741824 := of_decide_eq_true h
/-! ### An event's bytes -/
def dsB (l : List (Int × Int)) : Nat → List Nat
  | 0 => []
  | i + 1 => dsB l i ++ (enc (l.getD i (0, 0)).1.toNat ++ enc (l.getD i (0, 0)).2.toNat)
theorem dsB_len (l : List (Int × Int)) (i : Nat) : (dsB l i).length ≤ 18 * i := by
  induction i with
  | zero => simp [dsB]
  | succ i ih =>
    simp only [dsB, List.length_append, enc_len]
    have := nd_le (l.getD i (0, 0)).1.toNat
    have := nd_le (l.getD i (0, 0)).2.toNat
    omega
def textB (s : ByteArray) : List Nat := enc s.size ++ sbl s
theorem textB_len (s : ByteArray) : (textB s).length ≤ s.size + 9 := by
  unfold textB; rw [List.length_append, enc_len, sbl_len]; have := nd_le s.size; omega
def hdB (e : Ev) : List Nat := (enc e.d.1.toNat ++ enc e.d.2.toNat) ++ (enc e.t.toNat ++ (enc e.k.toNat ++ (textB e.doc ++ (enc e.f.toNat ++ (textB e.txt ++ enc e.gone.length)))))
def evB (e : Ev) : List Nat := hdB e ++ dsB e.gone e.gone.length
theorem n61bad (a : List Nat) (t : Bool) (z : Nat) (hz : z = 0 ∨ z = 1) (e : Ev) (hd : e.doc.size ≤ 1000000000000000) (hg : e.gone.length ≤ 1000) (ha : a.length ≤ 199999980000000) (hc : chk e ≠ 0) : ∃ k, ∀ b z2, (z2 = 2 ∨ z2 = 0 ∧ e.gone = []) →
    Pn k 61 [.one (.iv (.sl t z (by8 a))), evF b z2 e] [] (.one (.slo 0 0 a.length)) [.arr false false 1 (by8 a)] := by
  obtain ⟨k, hk⟩ := n33 e hd hg
  refine ⟨k + 1, fun b z2 hz2 => playN k rfl rfl fun A call hA hcall => ?_⟩
  obtain ⟨pl, mi, ml, nt, tn, ad, sb, K⟩ := kit hA
  obtain ⟨E, ix, sn, ll, cc, sg, D⟩ := lkit hA K ((0, 0) : Int × Int) (fun p => [.int .i64 p.1, .int .i64 p.2]) 16
  have k1 := hk b z2 hz2 k (Nat.le_refl _)
  rw [← hcall] at k1
  have a1 := appn hA (by8 a) (by rw [by8_len]; omega)
  have l1 : A .ln (by8 a) = a.length := by rw [hA]; exact by8_len a
  dsimp only [evF] at k1 ⊢
  generalize chk e = c at *
  generalize by8 a = es at *
  generalize a.length = n at *
  generalize eDs e.gone = gs at *
  rcases hz with rfl | rfl
  all_goals
    refine wpV_ofH (by ((try (conv => lhs; cbv)); (repeat ((first | (rewrite [a1]) | (rewrite [l1]) | (rewrite [k1]) | (rewrite [K.neT]; rotate_left; focus ((try simp only [K.df, D.df, true_and, and_true]) <;> omega))); (try (conv => lhs; cbv)))); (exact rfl))) ?_
    (show finV _ _ _ = some _; ((try (conv => lhs; cbv)); (try (with_reducible rfl))); (try rfl))
end Go.Proofs.Ytlljgefgbglmbaa
