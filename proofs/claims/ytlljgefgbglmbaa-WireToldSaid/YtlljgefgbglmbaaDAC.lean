/- What a reader makes of a state's bytes, and that what was written is read: in plain Lean. -/
import Derived.Test.YtlljgefgbglmbaaDAB
import Derived.Test.YtlljgefgbglmbaaCGL
set_option linter.unusedSimpArgs false
set_option linter.unusedVariables false
set_option maxRecDepth 100000
set_option maxHeartbeats 1000000
namespace Go.Proofs.Ytlljgefgbglmbaa
open Go GoV
/-! ### What a reader makes of bytes -/
def wr1 (bs : List Nat) (s : RS) := dotS bs s
def wr2 (bs : List Nat) (s : RS) := numS bs 1099511627776 (wr1 bs s).2
def wr3 (bs : List Nat) (s : RS) := textS bs 12 (wr2 bs s).2
def wr4 (bs : List Nat) (s : RS) := numS bs 4 (wr3 bs s).2
def wr5 (bs : List Nat) (s : RS) := textS bs 160 (wr4 bs s).2
/-- A write, read. -/
def wrRd (bs : List Nat) (s : RS) : Wr × RS := (⟨(wr1 bs s).1, (wr2 bs s).1, (wr3 bs s).1, (wr4 bs s).1, (wr5 bs s).1⟩, (wr5 bs s).2)
def wrGo (bs : List Nat) : Nat → List Wr → RS → List Wr × RS
  | 0, l, s => (l, s)
  | n + 1, l, s => if s.err = 0 then wrGo bs n (l ++ [(wrRd bs s).1]) (wrRd bs s).2 else (l, s)
def st1 (bs : List Nat) (s : RS) := vecS bs s
def st2 (bs : List Nat) (s : RS) := numS bs 4096 (st1 bs s).2
def st3 (bs : List Nat) (s : RS) := wrGo bs (st2 bs s).1 [] (st2 bs s).2
/-- A state, read. -/
def stS (bs : List Nat) (s : RS) : (List Int × List Wr) × RS := if (st3 bs s).2.err ≠ 0 then ((zeros, []), (st3 bs s).2) else if canB (st1 bs s).1 (st3 bs s).1 = false then ((zeros, []), (st3 bs s).2.fail 3) else (((st1 bs s).1, (st3 bs s).1), (st3 bs s).2)
theorem wrRd_fits {bs : List Nat} {s : RS} (h : s.fits bs.length) : (wrRd bs s).2.fits bs.length := textS_fits (numS_fits (textS_fits (numS_fits (dotS_fits h))))
theorem wrGo_fits {bs : List Nat} : ∀ {n : Nat} {l : List Wr} {s : RS}, s.fits bs.length → (wrGo bs n l s).2.fits bs.length
  | 0, _, _, h => h
  | n + 1, l, s, h => by
    unfold wrGo
    split
    · exact wrGo_fits (wrRd_fits h)
    · exact h
theorem wrGo_doc {bs : List Nat} : ∀ {n : Nat} {l : List Wr} {s : RS}, (∀ w, w ∈ l → w.doc.size ≤ bs.length) → ∀ w, w ∈ (wrGo bs n l s).1 → w.doc.size ≤ bs.length
  | 0, _, _, h => h
  | n + 1, l, s, h => by
    unfold wrGo
    split
    · refine wrGo_doc fun w hw => ?_
      rcases List.mem_append.1 hw with h1 | h1
      · exact h w h1
      · simp only [List.mem_singleton] at h1
        subst h1
        exact textS_size
    · exact h
theorem stS_er {bs : List Nat} {s : RS} {f : Bool} {e : Int} (h : (st3 bs s).2 = .er f e) (he : e ≠ 0) : stS bs s = ((zeros, []), .er f e) := by
  unfold stS; rw [h]; exact if_pos he
theorem stS_bad {bs : List Nat} {s : RS} {f : Bool} {o n : Nat} (h : (st3 bs s).2 = .ok f o n) (he : canB (st1 bs s).1 (st3 bs s).1 = false) : stS bs s = ((zeros, []), .er f 3) := by
  unfold stS; rw [h, if_neg (by simp [RS.err]), if_pos he]; rfl
theorem stS_ok {bs : List Nat} {s : RS} {f : Bool} {o n : Nat} (h : (st3 bs s).2 = .ok f o n) (he : canB (st1 bs s).1 (st3 bs s).1 = true) : stS bs s = (((st1 bs s).1, (st3 bs s).1), .ok f o n) := by
  unfold stS; rw [h, if_neg (by simp [RS.err]), if_neg (by simp [he])]
theorem es2_flat (f : Nat → Nat) : ∀ n, es2 f n = (List.range n).flatMap fun j => enc (f j)
  | 0 => rfl
  | n + 1 => by rw [es2, es2_flat f n, List.range_succ, List.flatMap_append]; simp
theorem gs_flat (l : List Nat) : ∀ n, gs l n = (List.range n).flatMap fun j => enc (gap l j)
  | 0 => rfl
  | n + 1 => by rw [gs, gs_flat l n, List.range_succ, List.flatMap_append]; simp
theorem risGo_enc {bs : List Nat} {top : Nat} (ht : top < 2 ^ 62) {l : List Nat} (hp : l.Pairwise (· < ·)) (hl : ∀ x, x ∈ l → x ≤ top) : ∀ (n i : Nat) (acc : List Int) (o : Nat) (W : List Nat), i + n = l.length → bs.drop o = ((List.range' i n).flatMap fun j => enc (gap l j)) ++ W →
    risGo bs top n (pv l i) acc (.ok true o (((List.range' i n).flatMap fun j => enc (gap l j)) ++ W).length) = (some (acc ++ (l.drop i).map fun x : Nat => (x : Int)), .ok true (o + ((List.range' i n).flatMap fun j => enc (gap l j)).length) W.length)
  | 0, i, acc, o, W, hi, h => by
    rw [risGo, List.drop_of_length_le (by omega)]
    simp
  | n + 1, i, acc, o, W, hi, h => by
    have hm : l.getD i 0 ∈ l := by rw [List.getD_eq_getElem?_getD, List.getElem?_eq_getElem (by omega)]; exact List.getElem_mem _
    have hx := hl _ hm
    have pl := pv_le hp (i := i) (by omega)
    have hg : gap l i = l.getD i 0 - pv l i := rfl
    have e : ((List.range' i (n + 1)).flatMap fun j => enc (gap l j)) ++ W = enc (gap l i) ++ (((List.range' (i + 1) n).flatMap fun j => enc (gap l j)) ++ W) := by
      rw [List.range'_succ, List.flatMap_cons, List.append_assoc]
    rw [e] at h ⊢
    have q := numS_enc (most := (top : Int) - (pv l i : Int)) (f := true) h (by omega) (by omega)
    have d1 := drop_enc h
    rw [risGo, q]
    dsimp only
    rw [if_pos (show (RS.ok true _ _).err = 0 from rfl)]
    have hp1 : pv l i + gap l i + 1 = pv l (i + 1) := by rw [hg]; show _ = l.getD i 0 + 1; omega
    rw [hp1, risGo_enc ht hp hl n (i + 1) _ _ W (by omega) d1]
    have hd : l.drop i = l.getD i 0 :: l.drop (i + 1) := by
      rw [List.drop_eq_getElem_cons (by omega), List.getD_eq_getElem?_getD, List.getElem?_eq_getElem (by omega)]; rfl
    rw [hd, List.map_cons, List.append_assoc, show ((pv l i + gap l i : Nat) : Int) = (l.getD i 0 : Nat) by congr 1; omega, List.range'_succ, List.flatMap_cons, List.length_append, Nat.add_assoc]
    rfl
def setV (v u : List Int) (j : Nat) : List Int := u.set j (v.getD j 0)
theorem setV_len (v : List Int) : ∀ (js : List Nat) (u : List Int), (js.foldl (setV v) u).length = u.length
  | [], _ => rfl
  | j :: js, u => by rw [List.foldl_cons, setV_len v js]; simp [setV]
theorem setV_get (v : List Int) : ∀ (js : List Nat) (u : List Int) (k : Nat), k < u.length → (js.foldl (setV v) u).getD k 0 = if k ∈ js then v.getD k 0 else u.getD k 0
  | [], u, k, _ => by simp
  | j :: js, u, k, h => by
    rw [List.foldl_cons, setV_get v js _ k (by simpa [setV] using h)]
    by_cases hk : k ∈ js
    · rw [if_pos hk, if_pos (List.mem_cons_of_mem _ hk)]
    · rw [if_neg hk]
      by_cases hj : k = j
      · subst hj
        rw [if_pos (List.mem_cons_self ..)]
        simp [setV, List.getD_eq_getElem?_getD, h]
      · rw [if_neg (by simp [hj, hk])]
        simp only [setV, List.getD_eq_getElem?_getD]
        rw [List.getElem?_set_ne (fun h => hj h.symm)]
theorem setV_all {v : List Int} (hv : v.length = 64) (hg : goodB v = true) : (ats v 64).foldl (setV v) zeros = v := by
  refine List.ext_getElem (by rw [setV_len, hv]; simp [zeros]) fun k h1 h2 => ?_
  have h3 : k < zeros.length := by simp only [zeros, List.length_replicate]; omega
  have h := setV_get v (ats v 64) zeros k h3
  rw [List.getD_eq_getElem?_getD, List.getElem?_eq_getElem h1] at h
  simp only [Option.getD_some] at h
  rw [h]
  have g := goodB_get hg (i := k) (by omega)
  have hz : zeros.getD k 0 = 0 := by unfold zeros; rw [List.getD_eq_getElem?_getD, List.getElem?_replicate]; split <;> rfl
  have hw : v.getD k 0 = v[k] := by rw [List.getD_eq_getElem?_getD, List.getElem?_eq_getElem h2]; rfl
  by_cases hm : k ∈ ats v 64
  · rw [if_pos hm, hw]
  · rw [if_neg hm, hz, ← hw]
    have : ¬ (k < 64 ∧ 0 < v.getD k 0) := fun h => hm (ats_mem.2 h)
    omega
theorem vecGo_enc {bs : List Nat} {v : List Int} (hg : goodB v = true) : ∀ (n i : Nat) (u : List Int) (o : Nat) (W : List Nat), i + n = (ats v 64).length → bs.drop o = ((List.range' i n).flatMap fun j => enc (fv v j)) ++ W →
    vecGo bs (((ats v 64).drop i).map fun x : Nat => (x : Int)) u (.ok true o (((List.range' i n).flatMap fun j => enc (fv v j)) ++ W).length) = (((ats v 64).drop i).foldl (setV v) u, .ok true (o + ((List.range' i n).flatMap fun j => enc (fv v j)).length) W.length)
  | 0, i, u, o, W, hi, h => by
    rw [List.drop_of_length_le (by omega)]
    simp [vecGo]
  | n + 1, i, u, o, W, hi, h => by
    have hm : (ats v 64).getD i 0 ∈ ats v 64 := by rw [List.getD_eq_getElem?_getD, List.getElem?_eq_getElem (by omega)]; exact List.getElem_mem _
    obtain ⟨m1, m2⟩ := ats_mem.1 hm
    have g := goodB_get hg m1
    have hf : fv v i = (v.getD ((ats v 64).getD i 0) 0 - 1).toNat := rfl
    have e : ((List.range' i (n + 1)).flatMap fun j => enc (fv v j)) ++ W = enc (fv v i) ++ (((List.range' (i + 1) n).flatMap fun j => enc (fv v j)) ++ W) := by
      rw [List.range'_succ, List.flatMap_cons, List.append_assoc]
    rw [e] at h ⊢
    have q := numS_enc (most := 1073741823) (f := true) h (by omega) (by omega)
    have d1 := drop_enc h
    have hd : (ats v 64).drop i = (ats v 64).getD i 0 :: (ats v 64).drop (i + 1) := by
      rw [List.drop_eq_getElem_cons (by omega), List.getD_eq_getElem?_getD, List.getElem?_eq_getElem (by omega)]; rfl
    rw [hd, List.map_cons, vecGo, q]
    dsimp only
    rw [vecGo_enc hg n (i + 1) _ _ W (by omega) d1, List.foldl_cons, List.range'_succ, List.flatMap_cons, List.length_append, Nat.add_assoc]
    congr 2
    unfold setV
    congr 1
    omega
theorem vecS_enc {bs W : List Nat} {o : Nat} {v : List Int} {f : Bool} (hv : v.length = 64) (hg : goodB v = true) (h : bs.drop o = putB v ++ W) : vecS bs (.ok f o (putB v ++ W).length) = (v, .ok true (o + (putB v).length) W.length) ∧ bs.drop (o + (putB v).length) = W := by
  refine ⟨?_, by rw [← List.drop_drop, h]; simp⟩
  have hl := ats_len v 64
  have e : putB v ++ W = enc (ats v 64).length ++ (((List.range' 0 (ats v 64).length).flatMap fun j => enc (gap (ats v 64) j)) ++ (((List.range' 0 (ats v 64).length).flatMap fun j => enc (fv v j)) ++ W)) := by
    unfold putB
    rw [gs_flat, es2_flat, List.range_eq_range']
    simp only [List.append_assoc]
  have el : (putB v).length = (enc (ats v 64).length).length + ((List.range' 0 (ats v 64).length).flatMap fun j => enc (gap (ats v 64) j)).length + ((List.range' 0 (ats v 64).length).flatMap fun j => enc (fv v j)).length := by
    have := congrArg List.length e
    simp only [List.length_append] at this
    omega
  rw [e] at h ⊢
  have q := numS_enc (most := 64) (f := f) h (by omega) (by omega)
  have d1 := drop_enc h
  have q2 := risGo_enc (top := 63) (by decide) (ats_pw v 64) (fun x hx => by have := (ats_mem.1 hx).1; omega) _ 0 [] _ _ (by omega) d1
  have d2 : bs.drop (o + (enc (ats v 64).length).length + ((List.range' 0 (ats v 64).length).flatMap fun j => enc (gap (ats v 64) j)).length) = ((List.range' 0 (ats v 64).length).flatMap fun j => enc (fv v j)) ++ W := by
    rw [← List.drop_drop, d1]; simp
  have q3 := vecGo_enc hg _ 0 zeros _ _ (by omega) d2
  unfold vecS risS
  rw [q]
  dsimp only
  rw [show pv (ats v 64) 0 = 0 from rfl, show ((63 : Nat) : Int) = 63 from rfl] at q2
  rw [q2]
  dsimp only
  rw [List.nil_append, q3]
  dsimp only
  rw [if_pos (show (RS.ok true _ _).err = 0 from rfl), List.drop_zero, setV_all hv hg, el]
  congr 2
  omega
theorem wrRd_enc {bs W : List Nat} {o : Nat} {f : Bool} {v : List Int} {w : Wr} (hc : goodW v w = true) (h : bs.drop o = wrB w ++ W) : wrRd bs (.ok f o (wrB w ++ W).length) = (w, .ok true (o + (wrB w).length) W.length) ∧ bs.drop (o + (wrB w).length) = W := by
  obtain ⟨c1, c2, c3, c4, c9006, c7, c8⟩ := goodW_0 hc
  refine ⟨?_, by rw [← List.drop_drop, h]; simp⟩
  have eb : wrB w ++ W = dotB w.d ++ (enc w.t.toNat ++ (textB w.doc ++ (enc w.f.toNat ++ (textB w.txt ++ W)))) := by
    unfold wrB dotB
    simp only [List.append_assoc]
  have el : (wrB w).length = (dotB w.d).length + (enc w.t.toNat).length + (textB w.doc).length + (enc w.f.toNat).length + (textB w.txt).length := by
    have := congrArg List.length eb
    simp only [List.length_append] at this
    omega
  rw [eb] at h ⊢
  obtain ⟨q1, d1⟩ := dotS_enc (f := f) h c1
  have q2 := numS_enc (most := 1099511627776) (f := true) d1 (by omega) (by omega)
  have d2 := drop_enc d1
  obtain ⟨q4, d4⟩ := textS_enc (most := 12) (f := true) d2 (by omega) (by omega)
  have q5 := numS_enc (most := 4) (f := true) d4 (by omega) (by omega)
  have d5 := drop_enc d4
  obtain ⟨q6, d6⟩ := textS_enc (most := 160) (f := true) d5 (by omega) (by omega)
  simp only [wrRd, wr5, wr4, wr3, wr2, wr1, q1, q2, q4, q5, q6]
  rw [Int.toNat_of_nonneg (by omega), Int.toNat_of_nonneg (by omega), el]
  congr 2
  omega
def wsL (l : List Wr) : List Nat := l.flatMap wrB
theorem wsB_wsL (l : List Wr) : ∀ i, i ≤ l.length → wsB l i = wsL (l.take i)
  | 0, _ => by simp [wsB, wsL]
  | i + 1, h => by
    rw [wsB, wsB_wsL l i (by omega), List.take_succ_eq_append_getElem (by omega)]
    unfold wsL
    rw [List.flatMap_append, List.getD_eq_getElem?_getD, List.getElem?_eq_getElem (by omega)]
    simp
theorem wrGo_enc {bs : List Nat} {v : List Int} : ∀ {l a : List Wr} {W : List Nat} {o : Nat}, bs.drop o = wsL l ++ W → (∀ w, w ∈ l → goodW v w = true) → wrGo bs l.length a (.ok true o (wsL l ++ W).length) = (a ++ l, .ok true (o + (wsL l).length) W.length) ∧ bs.drop (o + (wsL l).length) = W
  | [], a, W, o, h, hv => by
    refine ⟨by simp [wrGo, wsL], by rw [← List.drop_drop, h]; simp⟩
  | w :: l, a, W, o, h, hv => by
    refine ⟨?_, by rw [← List.drop_drop, h]; simp⟩
    have e : wsL (w :: l) ++ W = wrB w ++ (wsL l ++ W) := by simp [wsL, List.flatMap_cons]
    rw [e] at h ⊢
    obtain ⟨h1, h2⟩ := wrRd_enc (f := true) (hv w (by simp)) h
    obtain ⟨h3, _⟩ := wrGo_enc (a := a ++ [w]) h2 (fun x hx => hv x (by simp [hx]))
    rw [List.length_cons, wrGo, if_pos (show (RS.ok true o (wrB w ++ (wsL l ++ W)).length).err = 0 from rfl), h1]
    dsimp only
    rw [h3]
    simp only [List.append_assoc, List.singleton_append, wsL, List.flatMap_cons, List.length_append]
    congr 2
    omega
theorem stS_enc {bs W : List Nat} {o : Nat} {f : Bool} {v : List Int} {l : List Wr} (hv : v.length = 64) (hc : canB v l = true) (h : bs.drop o = stB v l ++ W) : stS bs (.ok f o (stB v l ++ W).length) = ((v, l), .ok true (o + (stB v l).length) W.length) := by
  obtain ⟨g1, g2, g3⟩ := canB_0 hc
  have eb : stB v l ++ W = putB v ++ (enc l.length ++ (wsL l ++ W)) := by
    unfold stB
    rw [wsB_wsL _ _ (Nat.le_refl _), List.take_length]
    simp only [List.append_assoc]
  have el : (stB v l).length = (putB v).length + (enc l.length).length + (wsL l).length := by
    have := congrArg List.length eb
    simp only [List.length_append] at this
    omega
  rw [eb] at h ⊢
  obtain ⟨q1, d1⟩ := vecS_enc (f := f) hv g1 h
  have q2 := numS_enc (most := 4096) (f := true) d1 (by omega) (by omega)
  have d2 := drop_enc d1
  obtain ⟨q3, _⟩ := wrGo_enc (v := v) (a := []) d2 g3
  have s1 : st1 bs (.ok f o (putB v ++ (enc l.length ++ (wsL l ++ W))).length) = (v, .ok true (o + (putB v).length) (enc l.length ++ (wsL l ++ W)).length) := q1
  have s2 : st2 bs (.ok f o (putB v ++ (enc l.length ++ (wsL l ++ W))).length) = (l.length, .ok true (o + (putB v).length + (enc l.length).length) (wsL l ++ W).length) := by unfold st2; rw [s1]; exact q2
  have s3 : st3 bs (.ok f o (putB v ++ (enc l.length ++ (wsL l ++ W))).length) = (l, .ok true (o + (putB v).length + (enc l.length).length + (wsL l).length) W.length) := by unfold st3; rw [s2]; exact q3
  unfold stS
  rw [s3, s1, hc, el]
  simp only [RS.err, ne_eq, not_true_eq_false, if_false, Bool.true_eq_false]
  congr 2
  omega
end Go.Proofs.Ytlljgefgbglmbaa
