/- Contexts as one, plain: what the program makes of them and what the document's answer makes of them is the same; what they know. -/
import Derived.Test.YtomchclmnmhjaaaDUC
set_option linter.unusedSimpArgs false
set_option linter.unusedVariables false
namespace Go.Proofs.Ytomchclmnmhjaaa
theorem tid_fin {v : List Int} (hv : v.length = 64) (l : List Dt) : Fin (clampV v) l (tid v l).1 (tid v l).2 := by
  rw [tid_ref hv l]
  exact fin_ref (clampV_len hv) l
theorem fin_mono {u0 u0' u u' : List Int} {l l' c c' : List Dt} (h : Fin u0 l u c) (h' : Fin u0' l' u' c') (hl : ∀ d, d ∈ l → d ∈ l') {r : Int} (r0 : 0 ≤ r) (r1 : r < 64) (h0 : gU u0 r ≤ gU u' r) : gU u r ≤ gU u' r := by
  rcases Int.lt_or_le (gU u' r) (gU u r) with hlt | hle
  · obtain ⟨m, v⟩ := h.btw r (gU u' r + 1) r0 r1 (by omega) (by omega)
    exact absurd rfl (h'.cl _ (hl _ m) v)
  · exact hle
theorem fin_up {u0 u0' u : List Int} {l c : List Dt} (h : Fin u0 l u c) (h1 : ∀ r, 0 ≤ r → r < 64 → gU u0 r ≤ gU u0' r) (h2 : ∀ r, 0 ≤ r → r < 64 → gU u0' r ≤ gU u r) : Fin u0' l u c :=
  ⟨h.len, h2, fun r n r0 r1 a b => h.btw r n r0 r1 (Int.lt_of_le_of_lt (h1 r r0 r1) a) b, h.cl, h.srt, h.mem⟩
theorem fin_list {u0 u : List Int} {l l' c : List Dt} (h : Fin u0 l u c) (hs : ∀ d, d ∈ l → d ∈ l') (hb : ∀ d, d ∈ l' → VD d → gU u0 d.1 < d.2 → d ∈ l) : Fin u0 l' u c := by
  refine ⟨h.len, h.ge, fun r n r0 r1 a b => ?_, fun d hd v e => ?_, h.srt, fun d => ?_⟩
  · obtain ⟨m, v⟩ := h.btw r n r0 r1 a b
    exact ⟨hs _ m, v⟩
  · have := h.ge d.1 v.1 v.2.1
    exact h.cl d (hb d hd v (by omega)) v e
  · rw [h.mem d]
    constructor
    · rintro ⟨m, v, g⟩
      exact ⟨hs d m, v, g⟩
    · rintro ⟨m, v, g⟩
      have := h.ge d.1 v.1 v.2.1
      exact ⟨hb d m v (by omega), v, g⟩
theorem fin_tid {v u : List Int} {l c : List Dt} (hv : v.length = 64) (h : Fin (clampV v) l u c) : tid v l = (u, c) := by
  obtain ⟨a, b⟩ := fin_unique (tid_fin hv l) h
  exact Prod.ext a b
theorem gU_clamp {v : List Int} (hv : v.length = 64) {r : Int} (r0 : 0 ≤ r) (r1 : r < 64) : gU (clampV v) r = cl0 (gU v r) := by
  unfold gU clampV
  rw [List.getD_eq_getElem?_getD, List.getElem?_map, List.getD_eq_getElem?_getD, List.getElem?_eq_getElem (by omega)]
  rfl
theorem gU_mxV {a b : List Int} (ha : a.length = 64) (hb : b.length = 64) {r : Int} (r0 : 0 ≤ r) (r1 : r < 64) : gU (mxV a b) r = max (gU a r) (gU b r) := by
  unfold gU
  have hi : r.toNat < 64 := by omega
  rw [List.getD_eq_getElem?_getD, List.getElem?_eq_getElem (by rw [mxV_len ha hb]; exact hi), Option.getD_some, mxV_get ha hb hi]
theorem tid_rng {v : List Int} (hv : v.length = 64) (l : List Dt) {r : Int} (r0 : 0 ≤ r) (r1 : r < 64) : 0 ≤ gU (tid v l).1 r ∧ gU (tid v l).1 r ≤ 1073741824 := by
  have h := tid_fin hv l
  have h0 := clampV_rng v r.toNat
  have hg := h.ge r r0 r1
  refine ⟨Int.le_trans h0.1 hg, ?_⟩
  rcases Int.lt_or_le (gU (clampV v) r) (gU (tid v l).1 r) with hlt | hle
  · exact (h.btw r _ r0 r1 hlt (Int.le_refl _)).2.2.2.2
  · exact Int.le_trans hle h0.2
theorem cl0_id {x : Int} (h0 : 0 ≤ x) (h1 : x ≤ 1073741824) : cl0 x = x := by unfold cl0; omega
/-- Two that were made tidy, as one, are the two as they stood, as one. -/
theorem un_eq {va vb : List Int} (ha : va.length = 64) (hb : vb.length = 64) (la lb : List Dt) : un va la vb lb = tid (mxV (tid va la).1 (tid vb lb).1) (la ++ lb) := by
  have fa := tid_fin ha la
  have fb := tid_fin hb lb
  have hm := mxV_len fa.len fb.len
  symm
  refine fin_tid hm (fin_list (tid_fin hm ((tid va la).2 ++ (tid vb lb).2)) (fun d hd => ?_) (fun d hd v g => ?_))
  · rcases List.mem_append.1 hd with h | h
    · exact List.mem_append_left _ ((fa.mem d).1 h).1
    · exact List.mem_append_right _ ((fb.mem d).1 h).1
  · have ra := tid_rng ha la v.1 v.2.1
    have rb := tid_rng hb lb v.1 v.2.1
    rw [gU_clamp hm v.1 v.2.1, gU_mxV fa.len fb.len v.1 v.2.1, cl0_id (by omega) (by omega)] at g
    rcases List.mem_append.1 hd with h | h
    · exact List.mem_append_left _ ((fa.mem d).2 ⟨h, v, by omega⟩)
    · exact List.mem_append_right _ ((fb.mem d).2 ⟨h, v, by omega⟩)
theorem fin_again {u0 u : List Int} {l c : List Dt} (f : Fin u0 l u c) (hr : ∀ r, 0 ≤ r → r < 64 → 0 ≤ gU u r ∧ gU u r ≤ 1073741824) : Fin (clampV u) c u c := by
  refine ⟨f.len, fun r r0 r1 => ?_, fun r n r0 r1 a b => ?_, fun d hd v => ?_, f.srt, fun d => ?_⟩
  · have := hr r r0 r1
    rw [gU_clamp f.len r0 r1, cl0_id this.1 this.2]; exact Int.le_refl _
  · have := hr r r0 r1
    rw [gU_clamp f.len r0 r1, cl0_id this.1 this.2] at a
    omega
  · exact f.cl d ((f.mem d).1 hd).1 v
  · constructor
    · intro h; exact ⟨h, ((f.mem d).1 h).2⟩
    · intro h; exact h.1
/-- Tidied twice is tidied once. -/
theorem tid_tid {v : List Int} (hv : v.length = 64) (l : List Dt) : tid (tid v l).1 (tid v l).2 = tid v l := by
  have f := tid_fin hv l
  exact fin_tid (u := (tid v l).1) (c := (tid v l).2) f.len (fin_again f fun r r0 r1 => tid_rng hv l r0 r1)
theorem un_tid {va vb : List Int} (ha : va.length = 64) (hb : vb.length = 64) (la lb : List Dt) : un (tid va la).1 (tid va la).2 (tid vb lb).1 (tid vb lb).2 = un va la vb lb := by
  unfold un
  rw [tid_tid ha la, tid_tid hb lb]
/-- With dots more. -/
theorem add_eq {va vz : List Int} (ha : va.length = 64) (hz : vz.length = 64) (h0 : ∀ r, 0 ≤ r → r < 64 → gU vz r = 0) (la k : List Dt) : tid (mxV (tid va la).1 (tid vz k).1) (la ++ k) = tid va (la ++ k) := by
  have fa := tid_fin ha la
  have fz := tid_fin hz k
  have f := tid_fin ha (la ++ k)
  have hm := mxV_len fa.len fz.len
  refine Eq.trans (fin_tid (u := (tid va (la ++ k)).1) (c := (tid va (la ++ k)).2) hm (fin_up f (fun r r0 r1 => ?_) (fun r r0 r1 => ?_))) rfl
  · have ra := tid_rng ha la r0 r1
    have rz := tid_rng hz k r0 r1
    rw [gU_clamp hm r0 r1, gU_mxV fa.len fz.len r0 r1, cl0_id (by omega) (by omega)]
    have := fa.ge r r0 r1
    omega
  · have ra := tid_rng ha la r0 r1
    have rz := tid_rng hz k r0 r1
    have rf := tid_rng ha (la ++ k) r0 r1
    rw [gU_clamp hm r0 r1, gU_mxV fa.len fz.len r0 r1, cl0_id (by omega) (by omega)]
    have e1 := fin_mono fa f (fun d h => List.mem_append_left _ h) r0 r1 (f.ge r r0 r1)
    have e2 := fin_mono fz f (fun d h => List.mem_append_right _ h) r0 r1 (by rw [gU_clamp hz r0 r1, h0 r r0 r1]; have : cl0 0 = 0 := rfl; omega)
    omega
/-! ### What they know -/
end Go.Proofs.Ytomchclmnmhjaaa
