/- 'PastChanges': the statement's own code; the statement of all data. -/
import Derived.Test.YtomchclmnmhjaaaPXT
set_option linter.unusedSimpArgs false
set_option linter.unusedVariables false
set_option maxRecDepth 100000
set_option maxHeartbeats 1000000
namespace Go.Proofs.Ytomchclmnmhjaaa
open Go GoV

theorem ok_cl {l : List Ev} (h : ∀ e, e ∈ l → EvOK e) : ∀ e, e ∈ l.map clE → EvOK e := by
  intro e he
  obtain ⟨x, hx, rfl⟩ := List.mem_map.1 he
  exact h x hx
theorem ok_app {l : List Ev} {e : Ev} (h : ∀ e, e ∈ l → EvOK e) (he : EvOK e) : ∀ x, x ∈ l ++ [e] → EvOK x := by
  intro x hx
  simp only [List.mem_append, List.mem_singleton] at hx
  rcases hx with hx | rfl
  · exact h x hx
  · exact he
theorem ok_add {l : List Ev} {e : Ev} (h : ∀ e, e ∈ l → EvOK e) (he : EvOK e) : ∀ x, x ∈ add l e → EvOK x := by
  simp only [add]
  cases hasD l e.r e.n
  · exact ok_app h he
  · exact h
theorem add_len (l : List Ev) (e : Ev) : (add l e).length ≤ l.length + 1 := by
  simp only [add]; cases hasD l e.r e.n <;> simp
theorem ok_trim {l : List Ev} (h : ∀ e, e ∈ l → EvOK e) (mx : Int) : ∀ (m : List Ev) (s : Int × List Ev × List Int), (∀ e, e ∈ m → EvOK e) → (∀ e, e ∈ s.2.1 → EvOK e) → ∀ e, e ∈ (m.foldl (tStep mx) s).2.1 → EvOK e
  | [], s, _, hs => hs
  | e :: r, s, hm, hs => by
    rw [List.foldl_cons]
    refine ok_trim h mx r _ (fun x hx => hm x (by simp [hx])) ?_
    unfold tStep
    split
    · exact hs
    · exact ok_app hs (show EvOK (clE e) from hm e (by simp))
theorem ok_collect (V : List Int) : ∀ (m : List Ev) (s : List Ev × List Int), (∀ e, e ∈ m → EvOK e) → (∀ e, e ∈ s.1 → EvOK e) → ∀ e, e ∈ (m.foldl (cStep V) s).1 → EvOK e
  | [], s, _, hs => hs
  | e :: r, s, hm, hs => by
    rw [List.foldl_cons]
    refine ok_collect V r _ (fun x hx => hm x (by simp [hx])) ?_
    unfold cStep
    split
    · exact hs
    · exact ok_app hs (show EvOK (clE e) from hm e (by simp))
theorem ok_un {l : List Ev} (h : ∀ e, e ∈ l.map clE → EvOK e) : ∀ e, e ∈ l → EvOK e := fun e he => h (clE e) (List.mem_map.2 ⟨e, he, rfl⟩)
theorem nz_map_cl (l : List Ev) : (l.map clE).map nz = l.map nz := by
  simp only [List.map_map]; rfl
/-- Two pasts in new memory are the same. -/
theorem same_of (f1 f2 : Bool) {l k : List Ev} (hl : l.length ≤ 1000000000000000000) (hn : l.map nz = k.map nz) (ho : ∀ e, e ∈ l → EvOK e) (hp : ∀ e, e ∈ k → EvOK e) {X : List Int} (hX : X.length = 64) :
    Pl 58 [pastF f1 (l.map encEv) (vec X), pastF f2 (k.map encEv) (vec X)] (bl true) [] := by
  have hk : k.length = l.length := by have := congrArg List.length hn; simpa using this.symm
  obtain ⟨t, ht, h⟩ := p58 f1 f2 l k hl (by omega) ho hp hX hX
  rw [ht.2 ⟨hn, rfl⟩] at h
  exact h
theorem seg_of {l : List Ev} : real .seg (l.map encEv) 0 l.length = l.map encEv := by
  have := seg_all (l.map encEv); simpa using this

theorem w12 (A : Ar) (call : CallT) (n : Nat) (es : List (List IV)) (e : Ev) (X V : List IV) (num : Int) (few : Bool) (a b c d f g : List (List IV)) (na nb nc nd nf ng : Nat) (Y Z : List IV)
    (k53 : call 53 [.one (.iv (.sl true 1 [[.sl false 8 es], [.sl true 8 [encEv e]]]))] [] = some (bl few, [])) (k54 : call 54 [] [] = some (bl true, []))
    (k59 : call 59 [pastF false es X, evF e] [] = some (.agg [.slo 0 0 na, .iv (.arr 64 X)], [.arr true false 8 a])) (k60 : call 60 [pastF false es X, evF e] [] = some (.agg [.slo 0 0 nb, .iv (.arr 64 X)], [.arr false false 8 b]))
    (k55 : call 55 [pastF false es X, i64 num] [] = some (.agg [.slo 0 0 nc, .iv (.arr 64 Y)], [.arr false false 8 c])) (k61 : call 61 [pastF false es X, i64 num] [] = some (.agg [.slo 0 0 nd, .iv (.arr 64 Y)], [.arr false false 8 d]))
    (k56 : call 56 [pastF false es X, .agg [.iv (.arr 64 V)]] [] = some (.agg [.slo 0 0 nf, .iv (.arr 64 Z)], [.arr false false 8 f])) (k62 : call 62 [pastF false es X, .agg [.iv (.arr 64 V)]] [] = some (.agg [.slo 0 0 ng, .iv (.arr 64 Z)], [.arr false false 8 g]))
    (s1 : call 58 [pastF (A .isE a) (A .seg a 0 na) X, pastF (A .isE b) (A .seg b 0 nb) X] [] = some (bl true, []))
    (s2 : call 58 [pastF (A .isE c) (A .seg c 0 nc) Y, pastF (A .isE d) (A .seg d 0 nd) Y] [] = some (bl true, []))
    (s3 : call 58 [pastF (A .isE f) (A .seg f 0 nf) Z, pastF (A .isE g) (A .seg g 0 ng) Z] [] = some (bl true, [])) :
    wpV A call (iterN n) v12.body ⟨0, padE 45 [pastF false es X, evF e, i64 num, .agg [.iv (.arr 64 V)]], []⟩ (finQ A v12 (bl true, [])) := by
  obtain ⟨er, en, et, ek, ed, ef, ex, eb, eg⟩ := e
  dsimp only [evF, encEv] at k53 k59 k60
  apply wpV_seq; refine wpV_of (by ((conv => lhs; cbv); (try (with_reducible rfl)))) ?_
  cases few with
  | false =>
    apply wpV_seq
    refine wpV_of (by ((conv => lhs; cbv); (repeat ((first | rewrite [k53] | rewrite [k54]); (try (conv => lhs; cbv)))); (try (with_reducible rfl)))) ?_
    (show finV _ _ _ = some _; ((conv => lhs; cbv); (try (with_reducible rfl))); (try rfl))
  | true =>
    apply wpV_seq
    refine wpV_of (by ((conv => lhs; cbv); (repeat ((first | rewrite [k53]); (try (conv => lhs; cbv)))); (try (with_reducible rfl)))) ?_
    refine wpV_of (by ((conv => lhs; cbv); (repeat ((first | rewrite [k59] | rewrite [k60] | rewrite [s1] | rewrite [k55] | rewrite [k61] | rewrite [s2] | rewrite [k56] | rewrite [k62] | rewrite [s3] | rewrite [k54]); (try (conv => lhs; cbv)))); (try (with_reducible rfl)))) ?_
    (show finV _ _ _ = some _; ((conv => lhs; cbv); (try (with_reducible rfl))); (try rfl))
theorem law12 {l : List Ev} (hl : l.length * 96 ≤ reachBytes) (ho : ∀ e, e ∈ l → EvOK e) {e : Ev} (he : EvOK e) {X V : List Int} (hX : X.length = 64) (hV : V.length = 64) (num : Int) :
    Pl 12 [pastF false (l.map encEv) (vec X), evF e, i64 num, vecF V] (bl true) [] := by
  have hrb : reachBytes = 140737488351232 := rfl
  have hrm := room_val
  obtain ⟨few, q53⟩ := p53b false true l [e] (by omega) (by simp)
  obtain ⟨j1, h53⟩ := q53.at pr_mono
  obtain ⟨j2, h54⟩ := p54.at pr_mono
  obtain ⟨j3, h59⟩ := (p59 false l (by omega) (fun x hx => (ho x hx).1) (vec X) e he.1).at pr_mono
  obtain ⟨j4, h60⟩ := (p60 false l (by omega) (vec X) e).at pr_mono
  obtain ⟨j5, h55⟩ := (p55 false l hl (fun x hx => (ho x hx).1) hX num).at pr_mono
  obtain ⟨j6, h61⟩ := (p61 false l hl hX num).at pr_mono
  obtain ⟨j7, h56⟩ := (p56 false l hl (fun x hx => (ho x hx).1) hX hV).at pr_mono
  obtain ⟨j8, h62⟩ := (p62 false l hl hX hV).at pr_mono
  have hal := add_len l e
  obtain ⟨j9, s1⟩ := (same_of (real .isE (((add l e).map clE).map encEv)) (real .isE ((add l e).map encEv)) (l := (add l e).map clE) (k := add l e) (by simp; omega) (nz_map_cl _) (ok_cl (ok_add ho he)) (ok_add ho he) hX).at pr_mono
  obtain ⟨t1, t2, t3⟩ := rt_trim l X (max num 0) l.length (by omega)
  have htr := trim_range (max num 0) (by omega) X (puts l) (by omega) l
  have hok := ok_trim ho (max num 0) l (puts l, [], X) ho (by simp)
  rw [List.take_length] at t1 t2
  have ht : l.foldl (tStep (max num 0)) (puts l, [], X) = trim l X (max num 0) := rfl
  rw [ht] at t1 t2 htr hok
  obtain ⟨c1, c2⟩ : (collect l X V).1 = (l.foldl (rcF V) ([], X)).1.map clE ∧ (collect l X V).2 = (l.foldl (rcF V) ([], X)).2 := by
    have := rc_collect V l ([], X)
    simp only [List.map_nil] at this
    rw [show collect l X V = l.foldl (cStep V) ([], X) from rfl, this]
    exact ⟨rfl, rfl⟩
  have hcr := collect_range V X l
  have hokc := ok_collect V l ([], X) ho (by simp)
  have hc : l.foldl (cStep V) ([], X) = collect l X V := rfl
  rw [hc] at hcr hokc
  rw [← t2] at h61
  rw [← c2] at h62
  generalize trim l X (max num 0) = tr at *
  generalize collect l X V = co at *
  generalize (rtS l X (max num 0) l.length).1 = tr' at *
  generalize (l.foldl (rcF V) ([], X)).1 = co' at *
  have hokt' : ∀ e, e ∈ tr' → EvOK e := ok_un (by rw [← t1]; exact hok)
  have hokc' : ∀ e, e ∈ co' → EvOK e := ok_un (by rw [← c1]; exact hokc)
  obtain ⟨j10, s2⟩ := (same_of (real .isE (tr.2.1.map encEv)) (real .isE (tr'.map encEv)) (l := tr.2.1) (k := tr') (by omega) (by rw [t1, nz_map_cl]) hok hokt' (X := tr.2.2) (by rw [htr.2.2.2, hX])).at pr_mono
  obtain ⟨j11, s3⟩ := (same_of (real .isE (co.1.map encEv)) (real .isE (co'.map encEv)) (l := co.1) (k := co') (by omega) (by rw [c1, nz_map_cl]) hokc hokc' (X := co.2) (by rw [hcr.2, hX])).at pr_mono
  obtain ⟨N, hN⟩ : ∃ N, N = j1 + j2 + j3 + j4 + j5 + j6 + j7 + j8 + j9 + j10 + j11 := ⟨_, rfl⟩
  refine Plays.wp (vf := v12) rfl rfl ⟨N, fun A call hA hcall => ?_⟩
  subst hA
  subst hcall
  have g1 : real .seg (((add l e).map clE).map encEv) 0 (add l e).length = ((add l e).map clE).map encEv := by
    have := seg_of (l := (add l e).map clE); rwa [List.length_map] at this
  refine w12 real _ N (l.map encEv) e (vec X) (vec V) num few (((add l e).map clE).map encEv) ((add l e).map encEv) (tr.2.1.map encEv) (tr'.map encEv) (co.1.map encEv) (co'.map encEv) (add l e).length (add l e).length tr.2.1.length tr'.length co.1.length co'.length (vec tr.2.2) (vec co.2)
    (h53 N (by omega)) (h54 N (by omega)) (h59 N (by omega)) (h60 N (by omega)) (h55 N (by omega)) (h61 N (by omega)) (h56 N (by omega)) (h62 N (by omega)) ?_ ?_ ?_
  · rw [g1, seg_of]; exact s1 N (by omega)
  · rw [seg_of, seg_of]; exact s2 N (by omega)
  · rw [seg_of, seg_of]; exact s3 N (by omega)

theorem lawV : ∀ xss, TyA [pastSh, evSh, iSh, vecSh] xss → ∃ n, play real (lookT tab) (fun _ => clonePr clones) n 12 (argsF [pastSh, evSh, iSh, vecSh] xss) [] = some (.one (.iv (.bool true)), []) := by
  intro xss h
  rcases xss with _ | ⟨a, _ | ⟨b, _ | ⟨c, _ | ⟨d, _ | ⟨e, r⟩⟩⟩⟩⟩
  · exact h.elim
  · exact h.2.elim
  · exact h.2.2.elim
  · exact h.2.2.2.elim
  · obtain ⟨h1, h2, h3, h4, _⟩ := h
    obtain ⟨l, X, rfl, hX, hl, ho⟩ := ty_past h1
    obtain ⟨e, rfl, he⟩ := ty_ev h2
    obtain ⟨num, rfl⟩ := ty_int h3
    obtain ⟨V, rfl, hV⟩ := ty_vec h4
    exact law12 hl ho he.1 hX hV num
  · exact h.2.2.2.2.elim
end Go.Proofs.Ytomchclmnmhjaaa
