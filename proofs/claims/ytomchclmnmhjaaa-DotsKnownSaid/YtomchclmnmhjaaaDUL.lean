/- Contexts as one, plain: what the program makes of them and what the document's answer makes of them is the same; what they know. -/
import Derived.Test.YtomchclmnmhjaaaDUC
set_option linter.unusedSimpArgs false
set_option linter.unusedVariables false
namespace Go.Proofs.Ytomchclmnmhjaaa
theorem tid_fin {v : List Int} (hv : v.length = 64) (l : List Dt) : Fin (clampV v) l (tid v l).1 (tid v l).2 := by
  rw [tid_ref hv l]
  exact fin_ref (clampV_len hv) l
theorem fin_list {u0 u : List Int} {l l' c : List Dt} (h : Fin u0 l u c) (hs : ∀ d, d ∈ l → d ∈ l') (hb : ∀ d, d ∈ l' → VD d → gU u0 d.1 < d.2 → d ∈ l) : Fin u0 l' u c := by
  refine ⟨h.len, h.ge, fun r n r0 r1 a b => ?_, fun d hd v e => ?_, h.srt, fun d => ?_⟩
  · obtain ⟨m, v⟩ := h.btw r n r0 r1 a b
    exact ⟨hs _ m, v⟩
  · have := h.ge d.1 v.1 v.2.1
    exact h.cl d (hb d hd v (by omega)) v e
  · rw [h.mem d]
    constructor
    · rintro ⟨m, v, g⟩
      exact ⟨hs d m, v, g⟩
    · rintro ⟨m, v, g⟩
      have := h.ge d.1 v.1 v.2.1
      exact ⟨hb d m v (by omega), v, g⟩
theorem fin_tid {v u : List Int} {l c : List Dt} (hv : v.length = 64) (h : Fin (clampV v) l u c) : tid v l = (u, c) := by
  obtain ⟨a, b⟩ := fin_unique (tid_fin hv l) h
  exact Prod.ext a b
theorem gU_clamp {v : List Int} (hv : v.length = 64) {r : Int} (r0 : 0 ≤ r) (r1 : r < 64) : gU (clampV v) r = cl0 (gU v r) := by
  unfold gU clampV
  rw [List.getD_eq_getElem?_getD, List.getElem?_map, List.getD_eq_getElem?_getD, List.getElem?_eq_getElem (by omega)]
  rfl
theorem gU_mxV {a b : List Int} (ha : a.length = 64) (hb : b.length = 64) {r : Int} (r0 : 0 ≤ r) (r1 : r < 64) : gU (mxV a b) r = max (gU a r) (gU b r) := by
  unfold gU
  have hi : r.toNat < 64 := by omega
  rw [List.getD_eq_getElem?_getD, List.getElem?_eq_getElem (by rw [mxV_len ha hb]; exact hi), Option.getD_some, mxV_get ha hb hi]
theorem tid_rng {v : List Int} (hv : v.length = 64) (l : List Dt) {r : Int} (r0 : 0 ≤ r) (r1 : r < 64) : 0 ≤ gU (tid v l).1 r ∧ gU (tid v l).1 r ≤ 1073741824 := by
  have h := tid_fin hv l
  have h0 := clampV_rng v r.toNat
  have hg := h.ge r r0 r1
  refine ⟨Int.le_trans h0.1 hg, ?_⟩
  rcases Int.lt_or_le (gU (clampV v) r) (gU (tid v l).1 r) with hlt | hle
  · exact (h.btw r _ r0 r1 hlt (Int.le_refl _)).2.2.2.2
  · exact Int.le_trans hle h0.2
theorem cl0_id {x : Int} (h0 : 0 ≤ x) (h1 : x ≤ 1073741824) : cl0 x = x := by unfold cl0; omega
theorem fin_again {u0 u : List Int} {l c : List Dt} (f : Fin u0 l u c) (hr : ∀ r, 0 ≤ r → r < 64 → 0 ≤ gU u r ∧ gU u r ≤ 1073741824) : Fin (clampV u) c u c := by
  refine ⟨f.len, fun r r0 r1 => ?_, fun r n r0 r1 a b => ?_, fun d hd v => ?_, f.srt, fun d => ?_⟩
  · have := hr r r0 r1
    rw [gU_clamp f.len r0 r1, cl0_id this.1 this.2]; exact Int.le_refl _
  · have := hr r r0 r1
    rw [gU_clamp f.len r0 r1, cl0_id this.1 this.2] at a
    omega
  · exact f.cl d ((f.mem d).1 hd).1 v
  · constructor
    · intro h; exact ⟨h, ((f.mem d).1 h).2⟩
    · intro h; exact h.1
/-- Tidied twice is tidied once. -/
theorem tid_tid {v : List Int} (hv : v.length = 64) (l : List Dt) : tid (tid v l).1 (tid v l).2 = tid v l := by
  have f := tid_fin hv l
  exact fin_tid (u := (tid v l).1) (c := (tid v l).2) f.len (fin_again f fun r r0 r1 => tid_rng hv l r0 r1)
theorem un_tid {va vb : List Int} (ha : va.length = 64) (hb : vb.length = 64) (la lb : List Dt) : un (tid va la).1 (tid va la).2 (tid vb lb).1 (tid vb lb).2 = un va la vb lb := by
  unfold un
  rw [tid_tid ha la, tid_tid hb lb]
/-! ### What they know -/
theorem kn_iff {v : List Int} (hv : v.length = 64) (l : List Dt) (d : Dt) : knB v l d = true ↔ VD d ∧ (d.2 ≤ gU (clampV v) d.1 ∨ d ∈ l) := by
  unfold knB hasV
  rw [Bool.or_eq_true, Bool.and_eq_true, Bool.and_eq_true, decide_eq_true_eq, decide_eq_true_eq, validB_VD]
  constructor
  · rintro (⟨h, g⟩ | ⟨h, m⟩)
    · refine ⟨h, .inl ?_⟩
      have := h.2.2
      rw [gU_clamp hv h.1 h.2.1]; unfold cl0; omega
    · exact ⟨h, .inr m⟩
  · rintro ⟨h, g | m⟩
    · left
      refine ⟨h, ?_⟩
      have := h.2.2
      rw [gU_clamp hv h.1 h.2.1] at g; unfold cl0 at g; omega
    · exact .inr ⟨h, m⟩
theorem kn_fin {u0 u : List Int} {l c : List Dt} (h : Fin u0 l u c) {d : Dt} (hd : VD d) : (d.2 ≤ gU u d.1 ∨ d ∈ c) ↔ (d.2 ≤ gU u0 d.1 ∨ d ∈ l) := by
  have g := h.ge d.1 hd.1 hd.2.1
  constructor
  · rintro (a | a)
    · by_cases e : d.2 ≤ gU u0 d.1
      · exact .inl e
      · exact .inr (h.btw d.1 d.2 hd.1 hd.2.1 (by omega) a).1
    · exact .inr ((h.mem d).1 a).1
  · rintro (a | a)
    · exact .inl (by omega)
    · by_cases e : d.2 ≤ gU u d.1
      · exact .inl e
      · exact .inr ((h.mem d).2 ⟨a, hd, by omega⟩)
theorem kn_tid {v : List Int} (hv : v.length = 64) (l : List Dt) (d : Dt) : knB (tid v l).1 (tid v l).2 d = knB v l d := by
  have f := tid_fin hv l
  rw [Bool.eq_iff_iff, kn_iff f.len, kn_iff hv]
  constructor
  · rintro ⟨h, g⟩
    have r := tid_rng hv l h.1 h.2.1
    rw [gU_clamp f.len h.1 h.2.1, cl0_id r.1 r.2] at g
    exact ⟨h, (kn_fin f h).1 g⟩
  · rintro ⟨h, g⟩
    have r := tid_rng hv l h.1 h.2.1
    rw [gU_clamp f.len h.1 h.2.1, cl0_id r.1 r.2]
    exact ⟨h, (kn_fin f h).2 g⟩
theorem kn_un {va vb : List Int} (ha : va.length = 64) (hb : vb.length = 64) (la lb : List Dt) (d : Dt) : knB (un va la vb lb).1 (un va la vb lb).2 d = (knB va la d || knB vb lb d) := by
  have fa := tid_fin ha la
  have fb := tid_fin hb lb
  have hm := mxV_len fa.len fb.len
  unfold un
  rw [kn_tid hm, ← kn_tid ha la d, ← kn_tid hb lb d, Bool.eq_iff_iff, Bool.or_eq_true, kn_iff hm, kn_iff fa.len, kn_iff fb.len]
  constructor
  · rintro ⟨h, g⟩
    rw [gU_clamp hm h.1 h.2.1, gU_mxV fa.len fb.len h.1 h.2.1] at g
    rw [gU_clamp fa.len h.1 h.2.1, gU_clamp fb.len h.1 h.2.1]
    rcases g with g | g
    · unfold cl0 at *
      by_cases e : gU (tid va la).1 d.1 ≤ gU (tid vb lb).1 d.1
      · exact .inr ⟨h, .inl (by omega)⟩
      · exact .inl ⟨h, .inl (by omega)⟩
    · rcases List.mem_append.1 g with g | g
      · exact .inl ⟨h, .inr g⟩
      · exact .inr ⟨h, .inr g⟩
  · rintro (⟨h, g⟩ | ⟨h, g⟩)
    · refine ⟨h, ?_⟩
      rw [gU_clamp hm h.1 h.2.1, gU_mxV fa.len fb.len h.1 h.2.1]
      rw [gU_clamp fa.len h.1 h.2.1] at g
      rcases g with g | g
      · left; unfold cl0 at *; omega
      · exact .inr (List.mem_append_left _ g)
    · refine ⟨h, ?_⟩
      rw [gU_clamp hm h.1 h.2.1, gU_mxV fa.len fb.len h.1 h.2.1]
      rw [gU_clamp fb.len h.1 h.2.1] at g
      rcases g with g | g
      · left; unfold cl0 at *; omega
      · exact .inr (List.mem_append_right _ g)
theorem mxV_comm (a b : List Int) : mxV a b = mxV b a := by
  unfold mxV
  rw [List.zipWith_comm]
  congr 1
  funext x y
  exact Int.max_comm y x
theorem un_comm {va vb : List Int} (ha : va.length = 64) (hb : vb.length = 64) (la lb : List Dt) : un vb lb va la = un va la vb lb := by
  have fa := tid_fin ha la
  have fb := tid_fin hb lb
  have hm := mxV_len fa.len fb.len
  unfold un
  rw [mxV_comm (tid vb lb).1]
  refine fin_tid hm (fin_list (tid_fin hm ((tid va la).2 ++ (tid vb lb).2)) (fun d hd => ?_) (fun d hd _ _ => ?_))
  · rcases List.mem_append.1 hd with h | h
    · exact List.mem_append_right _ h
    · exact List.mem_append_left _ h
  · rcases List.mem_append.1 hd with h | h
    · exact List.mem_append_right _ h
    · exact List.mem_append_left _ h
/-- One that is within, as one with the whole: the whole. -/
theorem un_in {va vb : List Int} (ha : va.length = 64) (hb : vb.length = 64) (la lb : List Dt) : un (un va la vb lb).1 (un va la vb lb).2 va la = un va la vb lb := by
  have fa := tid_fin ha la
  have fb := tid_fin hb lb
  have hm := mxV_len fa.len fb.len
  have fu := tid_fin hm ((tid va la).2 ++ (tid vb lb).2)
  have tt := tid_tid hm ((tid va la).2 ++ (tid vb lb).2)
  obtain ⟨U, hU⟩ : ∃ U, U = un va la vb lb := ⟨_, rfl⟩
  have hU2 : tid (mxV (tid va la).1 (tid vb lb).1) ((tid va la).2 ++ (tid vb lb).2) = U := hU.symm
  rw [hU2] at fu tt
  rw [← hU]
  unfold un
  rw [tt]
  have ge : ∀ r, 0 ≤ r → r < 64 → gU (tid va la).1 r ≤ gU U.1 r := fun r r0 r1 => by
    have := fu.ge r r0 r1
    have ra := tid_rng ha la r0 r1
    have rb := tid_rng hb lb r0 r1
    rw [gU_clamp hm r0 r1, gU_mxV fa.len fb.len r0 r1, cl0_id (by omega) (by omega)] at this
    omega
  have hmx : mxV U.1 (tid va la).1 = U.1 := by
    refine List.ext_getElem (by rw [mxV_len fu.len fa.len, fu.len]) fun i h1 h2 => ?_
    have hi : i < 64 := by rw [fu.len] at h2; exact h2
    rw [mxV_get fu.len fa.len hi]
    have := ge i (by omega) (by omega)
    unfold gU at this
    rw [Int.toNat_natCast] at this
    have e : U.1.getD i 0 = U.1[i] := by rw [List.getD_eq_getElem?_getD, List.getElem?_eq_getElem h2]; rfl
    rw [← e]; omega
  rw [hmx]
  have f2 := tid_fin fu.len U.2
  rw [tt] at f2
  refine Eq.trans (fin_tid fu.len (fin_list f2 (fun d hd => List.mem_append_left _ hd) (fun d hd v g => ?_))) rfl
  rcases List.mem_append.1 hd with h | h
  · exact h
  · refine (fu.mem d).2 ⟨List.mem_append_left _ h, v, ?_⟩
    have ru : 0 ≤ gU U.1 d.1 ∧ gU U.1 d.1 ≤ 1073741824 := by
      have := tid_rng hm ((tid va la).2 ++ (tid vb lb).2) v.1 v.2.1
      rw [hU2] at this
      exact this
    rw [gU_clamp fu.len v.1 v.2.1, cl0_id ru.1 ru.2] at g
    exact g
end Go.Proofs.Ytomchclmnmhjaaa
