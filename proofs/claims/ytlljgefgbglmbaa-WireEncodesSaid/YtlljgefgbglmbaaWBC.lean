/- Lists of events held against each other; a past behind bytes, and read; a reader's end: gone through. -/
import Derived.Test.YtlljgefgbglmbaaWBB
import Derived.Test.YtlljgefgbglmbaaELF
import Derived.Test.YtlljgefgbglmbaaEVH
import Derived.Test.YtlljgefgbglmbaaDAE
set_option linter.unusedSimpArgs false
set_option linter.unusedVariables false
set_option maxRecDepth 100000
set_option maxHeartbeats 4000000
set_option cbv.maxSteps 10000000
namespace Go.Proofs.Ytlljgefgbglmbaa
open Go GoV

def zeroX : EvX := (zeroEv, true, 0)
def exs (lx : List EvX) : List (List IV) := lx.map exI
/-! ### A past -/
theorem n24 (B : List Nat) (t : Bool) (t2 : Bool) (z : Nat) (hz : z = 0 ∨ z = 1) {v : List Int} (hv : v.length = 64) (hg : goodB v = true) (l : List Ev) (hl : l.length ≤ 1000) (hd : ∀ e, e ∈ l → e.doc.size ≤ 1000000000000000 ∧ e.gone.length ≤ 1000) (hB : B.length ≤ 199999950000000) :
    ∃ k, Pn k 24 [.one (.iv (.sl t z (by8 B))), .agg [.iv (.sl t2 8 (l.map evE)), .iv (.arr 64 (vec v))]] [] (.one (.slo 0 0 (B ++ (putB v ++ evsA l)).length)) [.arr false false 1 (by8 (B ++ (putB v ++ evsA l)))] := by
  have hp := putB_len v
  obtain ⟨k1, h1⟩ := n22 hv hg B t z hz (by omega)
  obtain ⟨k2, h2⟩ := n23 (B ++ putB v) true t2 1 (.inr rfl) l hl hd (by rw [List.length_append]; omega)
  obtain ⟨k3, h3⟩ := n23 (B ++ putB v) false t2 1 (.inr rfl) l hl hd (by rw [List.length_append]; omega)
  refine ⟨k1 + k2 + k3 + 1, playN (k1 + k2 + k3) rfl rfl fun A call hA hcall => ?_⟩
  have q1 := h1 (k1 + k2 + k3) (by omega)
  have q2 : ∀ t, call 23 [.one (.iv (.sl t 1 (by8 (B ++ putB v)))), .one (.iv (.sl t2 8 (l.map evE)))] [] = some (.one (.slo 0 0 (B ++ putB v ++ evsA l).length), [.arr false false 1 (by8 (B ++ putB v ++ evsA l))]) := fun t => by
    rw [hcall]; cases t
    · exact h3 _ (by omega)
    · exact h2 _ (by omega)
  rw [← hcall] at q1
  have s1 := seg8 hA (B ++ putB v)
  rw [← List.append_assoc]
  dsimp only [vecF] at *
  generalize by8 B = e0 at *
  generalize by8 (B ++ putB v) = e1 at *
  generalize by8 (B ++ putB v ++ evsA l) = e2 at *
  generalize (B ++ putB v).length = n1 at *
  generalize (B ++ putB v ++ evsA l).length = n2 at *
  generalize l.map evE = ls at *
  generalize vec v = vs at *
  refine wpV_of (by ((conv => lhs; cbv); (repeat ((first | rewrite [q1] | rewrite [s1] | rewrite [q2]); (try (conv => lhs; cbv)))); (try (with_reducible rfl)))) ?_
  (show finV _ _ _ = some _; ((conv => lhs; cbv); (try (with_reducible rfl))); (try rfl))
/-! ### Events, read as they were written -/
def evL (l : List Ev) : List Nat := l.flatMap evB
theorem evsB_evL {l : List Ev} (h : ∀ e, e ∈ l → chk e = 0) : ∀ i, i ≤ l.length → evsB l i = evL (l.take i)
  | 0, _ => by simp [evsB, evL]
  | i + 1, hi => by
    have hc := h (l.getD i zeroEv) (by rw [List.getD_eq_getElem?_getD, List.getElem?_eq_getElem (by omega)]; exact List.getElem_mem _)
    rw [evsB, evsB_evL h i (by omega), List.take_succ_eq_append_getElem (by omega)]
    unfold evL evB'
    rw [if_pos hc, List.flatMap_append, List.getD_eq_getElem?_getD, List.getElem?_eq_getElem (by omega)]
    simp
theorem evB_b (e : Ev) (hc : chk e = 0) : ∀ b, b ∈ evB e → b < 256 := by
  obtain ⟨c1, c2, c3, c4, c5, c6, c7, c8, c9, c10⟩ := chk_0 hc
  have nm := name_size c4
  have v0 := valid_0 c1
  obtain ⟨g1, g2⟩ := gone_valid c5
  have hds : ∀ i, i ≤ e.gone.length → ∀ b, b ∈ dsB e.gone i → b < 256 := by
    intro i
    induction i with
    | zero => intro _ b hb; simp [dsB] at hb
    | succ i ih =>
      intro hi b hb
      have v := valid_0 (g2 i (by omega))
      simp only [dsB, List.mem_append] at hb
      rcases hb with h | h | h
      · exact ih (by omega) b h
      · exact enc_b _ (by omega) b h
      · exact enc_b _ (by omega) b h
  intro b hb
  unfold evB hdB at hb
  simp only [List.mem_append] at hb
  rcases hb with ((h | h) | h | h | h | h | h | h) | h
  · exact enc_b _ (by omega) b h
  · exact enc_b _ (by omega) b h
  · exact enc_b _ (by omega) b h
  · exact enc_b _ (by omega) b h
  · exact textB_b _ (by omega) b h
  · exact enc_b _ (by omega) b h
  · exact textB_b _ (by omega) b h
  · exact enc_b _ (by omega) b h
  · exact hds _ (Nat.le_refl _) b h
end Go.Proofs.Ytlljgefgbglmbaa
