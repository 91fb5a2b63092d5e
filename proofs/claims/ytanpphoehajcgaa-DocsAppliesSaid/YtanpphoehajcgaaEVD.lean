/- Which events may be, and their bytes: gone through. -/
import Derived.Test.YtanpphoehajcgaaEVC
set_option linter.unusedSimpArgs false
set_option linter.unusedVariables false
set_option maxRecDepth 100000
set_option maxHeartbeats 1000000
set_option cbv.maxSteps 10000000
namespace Go.Proofs.Ytanpphoehajcgaa
open Go GoV

structure Ev where
  d : Int × Int
  t : Int
  k : Int
  doc : ByteArray
  f : Int
  txt : ByteArray
  gone : List (Int × Int)
def evI (b : Bool) (z : Nat) (e : Ev) : List IV := [.int .i64 e.d.1, .int .i64 e.d.2, .int .i64 e.t, .int .i64 e.k, .str e.doc, .int .i64 e.f, .str e.txt, .sl b z (eDs e.gone)]
abbrev evF (b : Bool) (z : Nat) (e : Ev) : FV := .agg [.iv (.int .i64 e.d.1), .iv (.int .i64 e.d.2), .iv (.int .i64 e.t), .iv (.int .i64 e.k), .iv (.str e.doc), .iv (.int .i64 e.f), .iv (.str e.txt), .iv (.sl b z (eDs e.gone))]
def chk (e : Ev) : Int := if validB e.d = false ∨ e.t < 1 ∨ 1099511627776 < e.t ∨ nameB e.doc = false ∨ goneB e.d e.gone = false then 1 else if e.k = 2 ∧ e.f = 0 ∧ e.txt.size = 0 then 0 else if e.k ≠ 1 then 1 else textC e.f e.txt
theorem n15 (e : Ev) (hd : e.doc.size ≤ 1000000000000000) (hg : e.gone.length ≤ 1000) : ∃ k, ∀ b z, (z = 2 ∨ z = 0 ∧ e.gone = []) → Pn k 15 [evF b z e] [] (i64 (chk e)) [] := by
  obtain ⟨k, hk⟩ := n13 e.f e.txt
  refine ⟨k + 3000, fun b z hz => playN (k + 2999) rfl rfl fun A call hA hcall => ?_⟩
  obtain ⟨pl, mi, ml, nt, tn, ad, sb, K⟩ := kit hA
  obtain ⟨E, ix, sn, ll, cc, sg, D⟩ := lkit hA K ((0, 0) : Int × Int) (fun p => [.int .i64 p.1, .int .i64 p.2]) 16
  obtain ⟨⟨r, n⟩, t, kd, doc, f, txt, gone⟩ := e
  have k39 := n39 r n (k + 2999) (by omega)
  have k11 := n11 doc hd (k + 2999) (by omega)
  have k40 := n40 r n gone b z hz (by dsimp only at hg; omega) (k + 2999) (by dsimp only at hg; omega)
  have k13 := hk (k + 2999) (by omega)
  have se := scE hA txt
  obtain ⟨q, hq⟩ : ∃ q, q = decide (txt.size = 0) := ⟨_, rfl⟩
  rw [← hq] at se
  (conv at se => lhs; arg 4; cbv)
  rw [← hcall] at k39 k11 k40 k13
  dsimp only [evF, dotF, chk] at *
  generalize eDs gone = gs at *
  generalize hv : validB (r, n) = v at *
  generalize hn : nameB doc = nb at *
  generalize hgb : goneB (r, n) gone = gb at *
  generalize textC f txt = tc at *
  cases v with
  | false =>
    rw [if_pos (.inl rfl)]
    refine wpV_ofH (by ((try (conv => lhs; cbv)); (repeat ((first | (rewrite [k39])); (try (conv => lhs; cbv)))); (exact rfl))) ?_
    (show finV _ _ _ = some _; ((try (conv => lhs; cbv)); (try (with_reducible rfl))); (try rfl))
  | true =>
    by_cases h1 : t < 1
    · rw [if_pos (.inr (.inl h1))]
      refine wpV_ofH (by ((try (conv => lhs; cbv)); (repeat ((first | (rewrite [k39]) | (rewrite [K.ltT]; rotate_left; focus ((try simp only [K.df, D.df, true_and, and_true]) <;> omega))); (try (conv => lhs; cbv)))); (exact rfl))) ?_
      (show finV _ _ _ = some _; ((try (conv => lhs; cbv)); (try (with_reducible rfl))); (try rfl))
    · by_cases h2 : 1099511627776 < t
      · rw [if_pos (.inr (.inr (.inl h2)))]
        refine wpV_ofH (by ((try (conv => lhs; cbv)); (repeat ((first | (rewrite [k39]) | (rewrite [K.gtT]; rotate_left; focus ((try simp only [K.df, D.df, true_and, and_true]) <;> omega)) | (rewrite [K.ltF]; rotate_left; focus ((try simp only [K.df, D.df, true_and, and_true]) <;> omega))); (try (conv => lhs; cbv)))); (exact rfl))) ?_
        (show finV _ _ _ = some _; ((try (conv => lhs; cbv)); (try (with_reducible rfl))); (try rfl))
      · cases nb with
        | false =>
          rw [if_pos (.inr (.inr (.inr (.inl rfl))))]
          refine wpV_ofH (by ((try (conv => lhs; cbv)); (repeat ((first | (rewrite [k39]) | (rewrite [k11]) | (rewrite [K.ltF]; rotate_left; focus ((try simp only [K.df, D.df, true_and, and_true]) <;> omega)) | (rewrite [K.gtF]; rotate_left; focus ((try simp only [K.df, D.df, true_and, and_true]) <;> omega))); (try (conv => lhs; cbv)))); (exact rfl))) ?_
          (show finV _ _ _ = some _; ((try (conv => lhs; cbv)); (try (with_reducible rfl))); (try rfl))
        | true =>
          cases gb with
          | false =>
            rw [if_pos (.inr (.inr (.inr (.inr rfl))))]
            refine wpV_ofH (by ((try (conv => lhs; cbv)); (repeat ((first | (rewrite [k39]) | (rewrite [k11]) | (rewrite [k40]) | (rewrite [K.ltF]; rotate_left; focus ((try simp only [K.df, D.df, true_and, and_true]) <;> omega)) | (rewrite [K.gtF]; rotate_left; focus ((try simp only [K.df, D.df, true_and, and_true]) <;> omega))); (try (conv => lhs; cbv)))); (exact rfl))) ?_
            (show finV _ _ _ = some _; ((try (conv => lhs; cbv)); (try (with_reducible rfl))); (try rfl))
          | true =>
            rw [if_neg (by rintro (h | h | h | h | h) <;> first | cases h | omega)]
            by_cases h3 : kd = 2
            · by_cases h4 : f = 0
              · cases q with
                | true =>
                  have h5 := of_decide_eq_true hq.symm
                  rw [if_pos ⟨h3, h4, h5⟩]
                  refine wpV_ofH (by ((try (conv => lhs; cbv)); (repeat ((first | (rewrite [k39]) | (rewrite [k11]) | (rewrite [k40]) | (rewrite [se]) | (rewrite [K.eqT]; rotate_left; focus ((try simp only [K.df, D.df, true_and, and_true]) <;> omega)) | (rewrite [K.ltF]; rotate_left; focus ((try simp only [K.df, D.df, true_and, and_true]) <;> omega)) | (rewrite [K.gtF]; rotate_left; focus ((try simp only [K.df, D.df, true_and, and_true]) <;> omega))); (try (conv => lhs; cbv)))); (exact rfl))) ?_
                  (show finV _ _ _ = some _; ((try (conv => lhs; cbv)); (try (with_reducible rfl))); (try rfl))
                | false =>
                  have h5 := of_decide_eq_false hq.symm
                  rw [if_neg (fun h => h5 h.2.2), if_pos (by omega)]
                  refine wpV_ofH (by ((try (conv => lhs; cbv)); (repeat ((first | (rewrite [k39]) | (rewrite [k11]) | (rewrite [k40]) | (rewrite [se]) | (rewrite [K.eqT]; rotate_left; focus ((try simp only [K.df, D.df, true_and, and_true]) <;> omega)) | (rewrite [K.neT]; rotate_left; focus ((try simp only [K.df, D.df, true_and, and_true]) <;> omega)) | (rewrite [K.ltF]; rotate_left; focus ((try simp only [K.df, D.df, true_and, and_true]) <;> omega)) | (rewrite [K.gtF]; rotate_left; focus ((try simp only [K.df, D.df, true_and, and_true]) <;> omega))); (try (conv => lhs; cbv)))); (exact rfl))) ?_
                  (show finV _ _ _ = some _; ((try (conv => lhs; cbv)); (try (with_reducible rfl))); (try rfl))
              · rw [if_neg (fun h => h4 h.2.1), if_pos (by omega)]
                refine wpV_ofH (by ((try (conv => lhs; cbv)); (repeat ((first | (rewrite [k39]) | (rewrite [k11]) | (rewrite [k40]) | (rewrite [K.eqT]; rotate_left; focus ((try simp only [K.df, D.df, true_and, and_true]) <;> omega)) | (rewrite [K.neT]; rotate_left; focus ((try simp only [K.df, D.df, true_and, and_true]) <;> omega)) | (rewrite [K.ltF]; rotate_left; focus ((try simp only [K.df, D.df, true_and, and_true]) <;> omega)) | (rewrite [K.gtF]; rotate_left; focus ((try simp only [K.df, D.df, true_and, and_true]) <;> omega)) | (rewrite [K.eqF]; rotate_left; focus ((try simp only [K.df, D.df, true_and, and_true]) <;> omega))); (try (conv => lhs; cbv)))); (exact rfl))) ?_
                (show finV _ _ _ = some _; ((try (conv => lhs; cbv)); (try (with_reducible rfl))); (try rfl))
            · rw [if_neg (fun h => h3 h.1)]
              by_cases h4 : kd = 1
              · rw [if_neg (by omega)]
                refine wpV_ofH (by ((try (conv => lhs; cbv)); (repeat ((first | (rewrite [k39]) | (rewrite [k11]) | (rewrite [k40]) | (rewrite [k13]) | (rewrite [K.ltF]; rotate_left; focus ((try simp only [K.df, D.df, true_and, and_true]) <;> omega)) | (rewrite [K.gtF]; rotate_left; focus ((try simp only [K.df, D.df, true_and, and_true]) <;> omega)) | (rewrite [K.eqF]; rotate_left; focus ((try simp only [K.df, D.df, true_and, and_true]) <;> omega)) | (rewrite [K.neF]; rotate_left; focus ((try simp only [K.df, D.df, true_and, and_true]) <;> omega))); (try (conv => lhs; cbv)))); (exact rfl))) ?_
                (show finV _ _ _ = some _; ((try (conv => lhs; cbv)); (try (with_reducible rfl))); (try rfl))
              · rw [if_pos h4]
                refine wpV_ofH (by ((try (conv => lhs; cbv)); (repeat ((first | (rewrite [k39]) | (rewrite [k11]) | (rewrite [k40]) | (rewrite [K.neT]; rotate_left; focus ((try simp only [K.df, D.df, true_and, and_true]) <;> omega)) | (rewrite [K.ltF]; rotate_left; focus ((try simp only [K.df, D.df, true_and, and_true]) <;> omega)) | (rewrite [K.gtF]; rotate_left; focus ((try simp only [K.df, D.df, true_and, and_true]) <;> omega)) | (rewrite [K.eqF]; rotate_left; focus ((try simp only [K.df, D.df, true_and, and_true]) <;> omega))); (try (conv => lhs; cbv)))); (exact rfl))) ?_
                (show finV _ _ _ = some _; ((try (conv => lhs; cbv)); (try (with_reducible rfl))); (try rfl))
/-- What an event that may be is like. -/
theorem chk_0 {e : Ev} (h : chk e = 0) : validB e.d = true ∧ 1 ≤ e.t ∧ e.t ≤ 1099511627776 ∧ nameB e.doc = true ∧ goneB e.d e.gone = true ∧ 0 ≤ e.f ∧ e.f ≤ 4 ∧ e.txt.size ≤ 160 ∧ 1 ≤ e.k ∧ e.k ≤ 2 := by
  unfold chk at h
  split at h
  · cases h
  · rename_i h1
    have a : validB e.d = true := by cases hh : validB e.d with | true => rfl | false => exact absurd (.inl hh) h1
    have b : nameB e.doc = true := by cases hh : nameB e.doc with | true => rfl | false => exact absurd (.inr (.inr (.inr (.inl hh)))) h1
    have c : goneB e.d e.gone = true := by cases hh : goneB e.d e.gone with | true => rfl | false => exact absurd (.inr (.inr (.inr (.inr hh)))) h1
    have d : 1 ≤ e.t := by by_cases hh : e.t < 1; exact absurd (.inr (.inl hh)) h1; omega
    have d' : e.t ≤ 1099511627776 := by by_cases hh : 1099511627776 < e.t; exact absurd (.inr (.inr (.inl hh))) h1; omega
    refine ⟨a, d, d', b, c, ?_⟩
    split at h
    · rename_i h2; omega
    · split at h
      · cases h
      · rename_i h2 h3
        unfold textC at h
        split at h
        · cases h
        · split at h
          · cases h
          · omega
/-! ### An event's bytes -/
end Go.Proofs.Ytanpphoehajcgaa
