/- 'PastAll': the statement of all data. -/
import Derived.Test.YtomchclmnmhjaaaPLB
set_option linter.unusedSimpArgs false
set_option linter.unusedVariables false
set_option maxRecDepth 100000
set_option maxHeartbeats 8000000
namespace Go.Proofs.Ytomchclmnmhjaaa
open Go GoV

theorem seg_map' (l : List Ev) : real .seg (l.map encEv) 0 l.length = l.map encEv := by
  have := seg_all (l.map encEv); simpa using this
theorem vec_zero : vec (List.replicate 64 0) = List.replicate 64 (.int .i64 0) := by simp [vec]
theorem rem_real {i : Nat} (h : i ≤ 1000000000000000000) : real .ar .rem .i64 (i : Int) 3 = ((i % 3 : Nat) : Int) := by
  show (i : Int).tmod 3 = _
  rw [Int.tmod_eq_emod_of_nonneg (by omega)]
  omega
theorem law13 {l : List Ev} (hl : l.length * 96 ≤ reachBytes) (ho : ∀ e, e ∈ l → EvOK e) {V W : List Int} (hV : V.length = 64) (hW : W.length = 64) (num : Int) :
    Pl 13 [.one (.iv (.sl false 8 (l.map encEv))), i64 num, vecF V, vecF W] (bl true) [] := by
  have hrb : reachBytes = 140737488351232 := rfl
  have hrm := room_val
  obtain ⟨few, hfew, q53⟩ := p53d false l (by omega)
  obtain ⟨j1, h53⟩ := q53.at pr_mono
  obtain ⟨j2, h54⟩ := p54.at pr_mono
  obtain ⟨st, hst⟩ : ∃ st : Nat → List Ev × List Int, ∀ i, st i = pSt (max num 0) l i := ⟨_, fun _ => rfl⟩
  obtain ⟨sa, hsa⟩ : ∃ sa : Nat → List Ev, ∀ i, sa i = ((add (st i).1 (l.getD i d0)).map clE) := ⟨_, fun _ => rfl⟩
  obtain ⟨q, hq⟩ : ∃ q, q = collect (st l.length).1 (st l.length).2 V := ⟨_, rfl⟩
  have hok := fun i (hi : i ≤ l.length) => pSt_ok (mx := max num 0) (by omega) ho i hi
  simp only [← hst] at hok
  have hstep : ∀ i, st (i + 1) = if i % 3 = 2 then pT (max num 0) (sa i, (st i).2) else (sa i, (st i).2) := fun i => by
    rw [hst, pSt, ← hst, hsa]; rfl
  have hsal : ∀ i, i < l.length → (sa i).length ≤ i + 1 := fun i hi => by
    have := add_len (st i).1 (l.getD i d0); have := (hok i (by omega)).2.1; rw [hsa, List.length_map]; omega
  have hsaok : ∀ i, i < l.length → ∀ e, e ∈ sa i → EvOK e := fun i hi => by
    rw [hsa]; exact ok2_cl (ok2_add (hok i (by omega)).2.2 (by rw [getD_ev hi]; exact ho _ (List.getElem_mem _)))
  -- the calls, if there are few
  have hcalls : ∃ N, ∀ n, N ≤ n → few = true →
      (∀ i, i < l.length → play real (lookT tab) (fun _ => clonePr clones) n 59 [pastF (isE ((st i).1.map encEv)) ((st i).1.map encEv) (vec (st i).2), evF (l.getD i d0)] [] = some (.agg [.slo 0 0 (sa i).length, .iv (.arr 64 (vec (st i).2))], [.arr true false 8 ((sa i).map encEv)])) ∧
      (∀ i, i < l.length → play real (lookT tab) (fun _ => clonePr clones) n 55 [pastF (isE ((sa i).map encEv)) ((sa i).map encEv) (vec (st i).2), i64 num] [] = some (.agg [.slo 0 0 (pT (max num 0) (sa i, (st i).2)).1.length, .iv (.arr 64 (vec (pT (max num 0) (sa i, (st i).2)).2))], [.arr false false 8 ((pT (max num 0) (sa i, (st i).2)).1.map encEv)])) ∧
      (play real (lookT tab) (fun _ => clonePr clones) n 56 [pastF (isE ((st l.length).1.map encEv)) ((st l.length).1.map encEv) (vec (st l.length).2), vecF V] [] = some (.agg [.slo 0 0 q.1.length, .iv (.arr 64 (vec q.2))], [.arr false false 8 (q.1.map encEv)])) ∧
      (play real (lookT tab) (fun _ => clonePr clones) n 29 [vecF W, vecF q.2] [] = some (vecF (joinI W q.2), [])) ∧
      (play real (lookT tab) (fun _ => clonePr clones) n 63 [pastF (isE (q.1.map encEv)) (q.1.map encEv) (vec q.2), vecF (joinI W q.2), i64 1000] [] = some (sinceF (q.1.foldl (sF (joinI W q.2) 1000) []).length, [.arr false false 8 (((q.1.foldl (sF (joinI W q.2) 1000) []).map clE).map encEv)])) ∧
      (∀ i, i < l.length → play real (lookT tab) (fun _ => clonePr clones) n 19 [dotF (l.getD i d0).r (l.getD i d0).n] [] = some (bl (validB (l.getD i d0).r (l.getD i d0).n), [])) ∧
      (∀ i, i < l.length → play real (lookT tab) (fun _ => clonePr clones) n 22 [vecF (joinI W q.2), dotF (l.getD i d0).r (l.getD i d0).n] [] = some (bl (hasB (joinI W q.2) (l.getD i d0).r (l.getD i d0).n), [])) := by
    cases few with
    | false => exact ⟨0, fun _ _ h => by simp at h⟩
    | true =>
      have h80 := hfew rfl
      obtain ⟨a1, a2, a3, a4, a5⟩ := all_law (mx := max num 0) (by omega) ho h80 (V := V) (W := W) (q := q) (by rw [hq, hst]) hW
      have hU : (joinI W q.2).length = 64 := zip_len _ _ _
      obtain ⟨k1, h1⟩ := Plays.all pr_mono (T := lookT tab) (pr := fun _ => clonePr clones) (f := 59) (vs := fun i => [pastF (isE ((st i).1.map encEv)) ((st i).1.map encEv) (vec (st i).2), evF (l.getD i d0)]) (bs := fun _ => [])
        (r := fun i => (.agg [.slo 0 0 (sa i).length, .iv (.arr 64 (vec (st i).2))], [.arr true false 8 ((sa i).map encEv)])) (m := l.length)
        (fun i hi => by
          have hb := (hok i (by omega)).2.1
          have h := p59 (isE ((st i).1.map encEv)) (st i).1 (by omega) (fun e he => ((hok i (by omega)).2.2 e he).1) (vec (st i).2) (l.getD i d0) (by rw [getD_ev hi]; exact (ho _ (List.getElem_mem _)).1)
          rw [← hsa, show (add (st i).1 (l.getD i d0)).length = (sa i).length by rw [hsa, List.length_map]] at h
          exact h)
      obtain ⟨k2, h2⟩ := Plays.all pr_mono (T := lookT tab) (pr := fun _ => clonePr clones) (f := 55) (vs := fun i => [pastF (isE ((sa i).map encEv)) ((sa i).map encEv) (vec (st i).2), i64 num]) (bs := fun _ => [])
        (r := fun i => (.agg [.slo 0 0 (pT (max num 0) (sa i, (st i).2)).1.length, .iv (.arr 64 (vec (pT (max num 0) (sa i, (st i).2)).2))], [.arr false false 8 ((pT (max num 0) (sa i, (st i).2)).1.map encEv)])) (m := l.length)
        (fun i hi => by
          have hb := hsal i hi
          exact p55 (isE ((sa i).map encEv)) (sa i) (by omega) (fun e he => (hsaok i hi e he).1) (hok i (by omega)).1 num)
      have hb := (hok l.length (Nat.le_refl _)).2.1
      obtain ⟨k3, h3⟩ := (p56 (isE ((st l.length).1.map encEv)) (st l.length).1 (by omega) (fun e he => ((hok l.length (Nat.le_refl _)).2.2 e he).1) (hok l.length (Nat.le_refl _)).1 hV).at pr_mono
      rw [← hq] at h3
      obtain ⟨k4, h4⟩ := (p29 hW a1).at pr_mono
      obtain ⟨k5, h5⟩ := (p63 (isE (q.1.map encEv)) q.1 (by omega) (fun e he => (a3 e he).1) a1 hU 1000 a4).at pr_mono
      obtain ⟨k6, h6⟩ := Plays.all pr_mono (T := lookT tab) (pr := fun _ => clonePr clones) (f := 19) (vs := fun i => [dotF (l.getD i d0).r (l.getD i d0).n]) (bs := fun _ => []) (r := fun i => (bl (validB (l.getD i d0).r (l.getD i d0).n), [])) (m := l.length) (fun i hi => p19 _ _)
      obtain ⟨k7, h7⟩ := Plays.all pr_mono (T := lookT tab) (pr := fun _ => clonePr clones) (f := 22) (vs := fun i => [vecF (joinI W q.2), dotF (l.getD i d0).r (l.getD i d0).n]) (bs := fun _ => []) (r := fun i => (bl (hasB (joinI W q.2) (l.getD i d0).r (l.getD i d0).n), [])) (m := l.length) (fun i hi => p22 hU _ _)
      exact ⟨k1 + k2 + k3 + k4 + k5 + k6 + k7, fun n hn _ => ⟨h1 n (by omega), h2 n (by omega), h3 n (by omega), h4 n (by omega), h5 n (by omega), h6 n (by omega), h7 n (by omega)⟩⟩
  obtain ⟨j3, hcalls⟩ := hcalls
  obtain ⟨got, hgot⟩ : ∃ got, got = q.1.foldl (sF (joinI W q.2) 1000) [] := ⟨_, rfl⟩
  have hgl : got.length ≤ l.length := by
    have a := sF_len (joinI W q.2) 1000 q.1 []
    have b := (collect_range V (st l.length).2 (st l.length).1).1
    have c := (hok l.length (Nat.le_refl _)).2.1
    rw [← hgot] at a; simp only [List.length_nil] at a
    have d : q.1.length ≤ (st l.length).1.length := by rw [hq]; exact b
    omega
  rw [← hgot] at hcalls
  obtain ⟨N, hN⟩ : ∃ N, N = j1 + j2 + j3 + l.length + got.length + 1 := ⟨_, rfl⟩
  refine Plays.wp (vf := v13) rfl rfl ⟨N, fun A call hA hcall => ?_⟩
  subst hA
  subst hcall
  have hcl := fun h => hcalls N (by omega) h
  exact w13 real _ N l.length (by omega) (l.map encEv) num few (fun i => l.getD i d0) (fun j => clE (got.getD j d0)) (fun i => (i : Int)) (fun i => ((i % 3 : Nat) : Int)) rfl (fun i => decide (i % 3 = 2)) (fun i => validB (l.getD i d0).r (l.getD i d0).n) (fun i => hasB (joinI W q.2) (l.getD i d0).r (l.getD i d0).n)
    (fun i => (st i).1.map encEv) (fun i => (sa i).map encEv) (fun i => (sa i).length) (fun i => (st i).1.length) (fun i => vec (st i).2) (vec V) (vec W) (vec (joinI W q.2)) (vec q.2) (q.1.map encEv) ((got.map clE).map encEv) q.1.length got.length (by omega)
    (fun i j => sameD (got.getD j d0).r (got.getD j d0).n (l.getD i d0).r (l.getD i d0).n) (fun i j => hasD (got.take j) (l.getD i d0).r (l.getD i d0).n)
    (h53 N (by omega)) (h54 N (by omega)) (by rw [hst]; rfl) (by rw [hst]; rfl) (by rw [hst]; exact vec_zero)
    (fun i hi => by rw [lss_real, len_real]; simpa using hi) (by rw [lss_real, len_real]; simp) (fun i hi => by rw [get_ev hi, getD_ev hi]) (fun i hi => inc_real (by omega))
    (fun i => seg_map' _) (fun i => seg_map' _) (fun i hi => rem_real (by omega)) (fun i hi => by rw [eql_real]; congr 1; simp; omega) rfl
    (fun h => (hcl h).1) (fun i hi h => by have := hstep i; rw [if_neg (by simpa using h)] at this; rw [this]; exact ⟨rfl, rfl, rfl⟩)
    (fun h i hi ht => by have := hstep i; rw [if_pos (by simpa using ht)] at this; rw [this]; exact (hcl h).2.1 i hi)
    (fun h => (hcl h).2.2.1) (seg_map' _) (fun h => (hcl h).2.2.2.1) (fun h => (hcl h).2.2.2.2.1) (fun h => (hcl h).2.2.2.2.2.1) (fun h => (hcl h).2.2.2.2.2.2)
    (fun j hj => by rw [lss_real, real_ofN]; simpa using hj) (by rw [lss_real, real_ofN]; simp) (fun j hj => by rw [at_real (by omega) (by omega)]; simp)
    (fun j hj => by rw [real_getN]; simp [hj])
    (fun i hi j hj => eqv2_real _ _ _ _) (fun i => by simp [hasD]) (fun i j hj => by
      rw [List.take_add_one, List.getElem?_eq_getElem hj, hasD_app]
      simp only [Option.toList_some, hasD_one, List.getD_eq_getElem?_getD, List.getElem?_eq_getElem hj, Option.getD_some]
      cases hasD (got.take j) (l[i]?.getD d0).r (l[i]?.getD d0).n <;> rfl)
    (fun h i hi hv hh => by
      obtain ⟨a1, a2, a3, a4, a5⟩ := all_law (mx := max num 0) (by omega) ho (hfew h) (V := V) (W := W) (q := q) (by rw [hq, hst]) hW
      rw [List.take_length, hgot]
      exact a5 i hi hv hh)

theorem lawV : ∀ xss, TyA [.sl evSh 96, iSh, vecSh, vecSh] xss → ∃ n, play real (lookT tab) (fun _ => clonePr clones) n 13 (argsF [.sl evSh 96, iSh, vecSh, vecSh] xss) [] = some (.one (.iv (.bool true)), []) := by
  intro xss h
  rcases xss with _ | ⟨a, _ | ⟨b, _ | ⟨c, _ | ⟨d, _ | ⟨e, r⟩⟩⟩⟩⟩
  · exact h.elim
  · exact h.2.elim
  · exact h.2.2.elim
  · exact h.2.2.2.elim
  · obtain ⟨h1, h2, h3, h4, _⟩ := h
    obtain ⟨l, rfl, hl, ho⟩ := ty_evs h1
    obtain ⟨num, rfl⟩ := ty_int h2
    obtain ⟨V, rfl, hV⟩ := ty_vec h3
    obtain ⟨W, rfl, hW⟩ := ty_vec h4
    exact law13 hl ho hV hW num
  · exact h.2.2.2.2.elim
end Go.Proofs.Ytomchclmnmhjaaa
