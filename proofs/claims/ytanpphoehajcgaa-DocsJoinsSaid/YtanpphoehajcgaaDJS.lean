/- The sort of writes: what it makes. (Its laying, and the small machine with it: DJA.) -/
import Derived.Test.YtanpphoehajcgaaDJL
import Derived.Test.YtanpphoehajcgaaVBH
set_option linter.unusedSimpArgs false
set_option linter.unusedVariables false
set_option maxRecDepth 100000
set_option maxHeartbeats 1000000
set_option cbv.maxSteps 10000000
namespace Go.Proofs.Ytanpphoehajcgaa
open Go GoV
abbrev sgW' : List Bool := [true, true, true, false, true, false]
theorem nrm_t (s : List Bool) (x : List IV) : ∃ n r, nrmC (true :: s) x = .int .i64 n :: nrmC s r := by
  cases x with
  | nil => exact ⟨_, _, rfl⟩
  | cons c r => cases c <;> exact ⟨_, _, rfl⟩
theorem nrm_f (s : List Bool) (x : List IV) : ∃ b r, nrmC (false :: s) x = .str b :: nrmC s r := by
  cases x with
  | nil => exact ⟨_, _, rfl⟩
  | cons c r => cases c <;> exact ⟨_, _, rfl⟩
def wD (x : List IV) : Wr := match nrmC sgW' x with
  | [.int _ a, .int _ b, .int _ t, .str doc, .int _ f, .str txt] => ⟨(a, b), t, doc, f, txt⟩
  | _ => zeroWr
theorem nrm_wD (x : List IV) : ∃ w : Wr, nrmC sgW' x = [.int .i64 w.d.1, .int .i64 w.d.2, .int .i64 w.t, .str w.doc, .int .i64 w.f, .str w.txt] ∧ wD x = w := by
  obtain ⟨a, r1, h1⟩ := nrm_t [true, true, false, true, false] x
  obtain ⟨b, r2, h2⟩ := nrm_t [true, false, true, false] r1
  obtain ⟨t, r3, h3⟩ := nrm_t [false, true, false] r2
  obtain ⟨doc, r4, h4⟩ := nrm_f [true, false] r3
  obtain ⟨f, r5, h5⟩ := nrm_t [false] r4
  obtain ⟨txt, r6, h6⟩ := nrm_f [] r5
  have e : nrmC sgW' x = [.int .i64 a, .int .i64 b, .int .i64 t, .str doc, .int .i64 f, .str txt] := by
    rw [h1, h2, h3, h4, h5, h6, nrmC]
  exact ⟨⟨(a, b), t, doc, f, txt⟩, e, by unfold wD; rw [e]⟩
def cfW (x y : List IV) : Int := ordW (wD x) (wD y)
theorem lt_cfW (x y : List IV) : Go.Proofs.ltOf cfW x y = decide (LW (wD x) (wD y)) := rfl
theorem LW_keyl {a b c : Wr} (h : keyW a b) : LW a c ↔ LW b c := by
  rw [LW_iff, LW_iff, h.1, h.2.1, h.2.2]
theorem swoW : Go.Sort.SWO (Go.Proofs.ltOf cfW) := by
  refine ⟨fun x => ?_, fun x y z h1 h2 => ?_, fun x y z h1 h2 => ?_⟩
  · rw [lt_cfW]; exact decide_eq_false (LW_irr _)
  · rw [lt_cfW] at *; exact decide_eq_true (LW_trans (of_decide_eq_true h1) (of_decide_eq_true h2))
  · rw [lt_cfW] at *
    have h1 := of_decide_eq_false h1
    have h2 := of_decide_eq_false h2
    refine decide_eq_false fun h => ?_
    rcases LW_tri (wD x) (wD y) with g | g | g
    · exact h1 g
    · exact h2 ((LW_keyl g).1 h)
    · exact h2 (LW_trans g h)
def srtW (l : List Wr) : List Wr := (pdqL cfW (eWs l)).map wD
theorem srtW_e (l : List Wr) : eWs (srtW l) = pdqL cfW (eWs l) := by
  obtain ⟨hp, _⟩ := pdqL_facts swoW (eWs l)
  unfold srtW
  have : ∀ es : List (List IV), (∀ x, x ∈ es → x ∈ eWs l) → eWs (es.map wD) = es := by
    intro es
    induction es with
    | nil => intro _; rfl
    | cons x r ih =>
      intro h
      obtain ⟨p, _, hx⟩ := List.mem_map.1 (h x (by simp))
      have ih := ih fun y hy => h y (by simp [hy])
      unfold eWs at ih ⊢
      rw [List.map_cons, List.map_cons, ih, ← hx]
      rfl
  exact this _ fun x hx => hp.subset hx
theorem srtW_perm (l : List Wr) : (srtW l).Perm l := by
  obtain ⟨hp, _⟩ := pdqL_facts swoW (eWs l)
  have := hp.map wD
  have e : (eWs l).map wD = l := by
    unfold eWs
    rw [List.map_map]
    conv => rhs; rw [← List.map_id l]
    exact List.map_congr_left fun p _ => rfl
  rw [e] at this
  exact this
theorem srtW_srt (l : List Wr) : (srtW l).Pairwise (fun a b => ¬ LW b a) := by
  obtain ⟨hp, hs⟩ := pdqL_facts swoW (eWs l)
  rw [List.pairwise_iff_getElem]
  intro i j hi hj hij
  have hl : (srtW l).length = (pdqL cfW (eWs l)).length := by simp [srtW]
  have hj' : j < (eWs l).length := by rw [← hp.length_eq]; omega
  have := hs i j hij hj'
  rw [lt_cfW, List.getD_eq_getElem?_getD, List.getD_eq_getElem?_getD, List.getElem?_eq_getElem (by omega), List.getElem?_eq_getElem (by omega), Option.getD_some, Option.getD_some] at this
  have e : ∀ k (h : k < (srtW l).length), (srtW l)[k] = wD ((pdqL cfW (eWs l))[k]'(by omega)) := fun k h => by simp [srtW]
  rw [e i hi, e j hj]
  exact of_decide_eq_false this
theorem fits_eW (l : List Wr) : (eWs l).all (fitsC sgW') = true := by
  rw [List.all_eq_true]
  intro x hx
  obtain ⟨p, _, rfl⟩ := List.mem_map.1 hx
  rfl
end Go.Proofs.Ytanpphoehajcgaa
