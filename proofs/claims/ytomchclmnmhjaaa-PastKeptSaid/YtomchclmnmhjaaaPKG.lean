/- What trimming and collecting leave alone; the statement of all data; the row. -/
import Derived.Test.YtomchclmnmhjaaaPKF
set_option linter.unusedSimpArgs false
set_option linter.unusedVariables false
set_option maxRecDepth 100000
namespace Go.Proofs.Ytomchclmnmhjaaa
open Go GoV

theorem getD_set_ge (v : List Int) (i : Nat) (x : Int) (h : v.getD i 0 ≤ x) (j : Nat) : v.getD j 0 ≤ (v.set i x).getD j 0 := by
  simp only [List.getD_eq_getElem?_getD, List.getElem?_set] at h ⊢
  by_cases e : i = j
  · subst e
    by_cases hl : i < v.length
    · simp only [if_true, hl, if_true, Option.getD_some]; exact h
    · simp [hl]
  · simp [e]
theorem withB_ge (v : List Int) (r n : Int) (j : Nat) : v.getD j 0 ≤ (withB v r n).getD j 0 := by
  unfold withB
  split
  · exact getD_set_ge v _ _ (by omega) j
  · exact Int.le_refl _
theorem drops_cons (e : Ev) (l : List Ev) : drops (e :: l) = drops l + (if e.k = 2 then 1 else 0) := by
  simp only [drops, List.countP_cons, decide_eq_true_eq]
theorem drops_app (a b : List Ev) : drops (a ++ b) = drops a + drops b := by simp [drops]
theorem puts_app (a b : List Ev) : puts (a ++ b) = puts a + puts b := by simp [puts]
theorem puts_cons (e : Ev) (l : List Ev) : puts (e :: l) = puts l + (if e.k ≠ 2 then 1 else 0) := by
  simp only [puts, List.countP_cons, decide_eq_true_eq]
theorem puts_drops (l : List Ev) : puts l + drops l = l.length := by
  induction l with
  | nil => rfl
  | cons e r ih =>
    rw [puts_cons, drops_cons, List.length_cons]
    by_cases h : e.k = 2 <;> simp [h] <;> omega
theorem trim_law (mx : Int) : ∀ (l : List Ev) (s : Int × List Ev × List Int), (s.1 = puts s.2.1 + puts l) → (0 < puts s.2.1 → s.1 ≤ mx) → 0 ≤ mx →
    drops (l.foldl (tStep mx) s).2.1 = drops s.2.1 + drops l ∧ (puts (l.foldl (tStep mx) s).2.1 : Int) ≤ mx ∧ ∀ j, s.2.2.getD j 0 ≤ (l.foldl (tStep mx) s).2.2.getD j 0
  | [], s, h1, h2, h3 => by
    refine ⟨by simp [drops], ?_, fun j => Int.le_refl _⟩
    simp only [List.foldl_nil]
    have : s.1 = puts s.2.1 := by simpa [puts] using h1
    rcases Nat.eq_zero_or_pos (puts s.2.1) with h | h
    · omega
    · have := h2 h; omega
  | e :: r, s, h1, h2, h3 => by
    rw [List.foldl_cons]
    rw [puts_cons] at h1
    by_cases hk : e.k ≠ 2 ∧ s.1 > mx
    · have hs : tStep mx s e = (s.1 - 1, s.2.1, withB s.2.2 e.r e.n) := by simp only [tStep, if_pos hk]
      rw [hs]
      rw [if_pos hk.1] at h1
      obtain ⟨i1, i2, i3⟩ := trim_law mx r (s.1 - 1, s.2.1, withB s.2.2 e.r e.n) (by simp only; omega) (fun h => by have := h2 h; omega) h3
      refine ⟨by rw [i1, drops_cons, if_neg hk.1]; rfl, i2, fun j => Int.le_trans (withB_ge _ _ _ j) (i3 j)⟩
    · have hs : tStep mx s e = (s.1, s.2.1 ++ [clE e], s.2.2) := by simp only [tStep, if_neg hk]
      rw [hs]
      have hp : puts [clE e] = if e.k ≠ 2 then 1 else 0 := by rw [puts_cons]; show puts [] + (if e.k ≠ 2 then 1 else 0) = _; rw [show puts [] = 0 from rfl, Nat.zero_add]
      have hd : drops [clE e] = if e.k = 2 then 1 else 0 := by rw [drops_cons]; show drops [] + (if e.k = 2 then 1 else 0) = _; rw [show drops [] = 0 from rfl, Nat.zero_add]
      obtain ⟨i1, i2, i3⟩ := trim_law mx r (s.1, s.2.1 ++ [clE e], s.2.2) (by simp only [puts_app, hp]; omega) (fun h => by
        simp only [puts_app, hp] at h
        by_cases h' : e.k ≠ 2
        · have : ¬ s.1 > mx := fun g => hk ⟨h', g⟩
          show s.1 ≤ mx
          omega
        · rw [if_neg h'] at h
          exact h2 (by omega)) h3
      refine ⟨by rw [i1, drops_cons]; simp only [drops_app, hd]; omega, i2, i3⟩
theorem collect_law (V : List Int) : ∀ (l : List Ev) (s : List Ev × List Int), drops (l.foldl (cStep V) s).1 = drops s.1 + (l.countP fun e => decide (e.k = 2) && !(hasB V e.r e.n)) ∧ ∀ j, s.2.getD j 0 ≤ (l.foldl (cStep V) s).2.getD j 0
  | [], s => by simp
  | e :: r, s => by
    rw [List.foldl_cons]
    obtain ⟨i1, i2⟩ := collect_law V r (cStep V s e)
    cases hb : hasB V e.r e.n with
    | true =>
      have hs : cStep V s e = (s.1, withB s.2 e.r e.n) := by simp [cStep, hb]
      rw [hs] at i1 i2 ⊢
      refine ⟨by rw [i1, List.countP_cons]; simp [hb], fun j => Int.le_trans (withB_ge _ _ _ j) (i2 j)⟩
    | false =>
      have hs : cStep V s e = (s.1 ++ [clE e], s.2) := by simp [cStep, hb]
      rw [hs] at i1 i2 ⊢
      have hd : drops [clE e] = if e.k = 2 then 1 else 0 := by rw [drops_cons]; show drops [] + (if e.k = 2 then 1 else 0) = _; rw [show drops [] = 0 from rfl, Nat.zero_add]
      refine ⟨by rw [i1, List.countP_cons, drops_app, hd]; simp only [hb, Bool.not_false, Bool.and_true, decide_eq_true_eq]; omega, i2⟩

def opens (V : List Int) (l : List Ev) : Nat := l.countP fun e => decide (e.k = 2) && !(hasB V e.r e.n)
theorem opens_take {V : List Int} {l : List Ev} {i : Nat} (h : i < l.length) : opens V (l.take (i + 1)) = opens V (l.take i) + (if (decide (l[i].k = 2) && !(hasB V l[i].r l[i].n)) = true then 1 else 0) := by
  simp only [opens, List.take_add_one, List.getElem?_eq_getElem h, Option.toList_some, List.countP_append, List.countP_singleton]
theorem within_of {a b : List Int} (h : ∀ j, a.getD j 0 ≤ b.getD j 0) : withinB a b = true := by
  simp only [withinB, List.all_eq_true, List.mem_range, decide_eq_true_eq]
  exact fun j _ => h j

theorem law11 (evs : List Ev) (hl : evs.length * 96 ≤ reachBytes) (hg : ∀ e, e ∈ evs → e.g.length * 16 ≤ reachBytes) {X V : List Int} (hX : X.length = 64) (hV : V.length = 64) (num : Int) :
    Pl 11 [pastF false (evs.map encEv) (vec X), i64 num, vecF V] (bl true) [] := by
  have hrb : reachBytes = 140737488351232 := rfl
  have hle : evs.length ≤ 10000000000000000 := by omega
  obtain ⟨few, p53'⟩ := p53 false evs (by omega)
  obtain ⟨k53, h53⟩ := p53'.at pr_mono
  obtain ⟨k54, h54⟩ := p54.at pr_mono
  obtain ⟨k55, h55⟩ := (p55 false evs hl hg hX num).at pr_mono
  obtain ⟨k56, h56⟩ := (p56 false evs hl hg hX hV).at pr_mono
  have htl := (trim_range (max num 0) (by omega) X (puts evs) (by omega) evs)
  have hcl := collect_range V X evs
  obtain ⟨t1, t2, t3⟩ := trim_law (max num 0) evs (puts evs, [], X) (by simp [puts]) (by simp [puts]) (by omega)
  obtain ⟨c1, c2⟩ := collect_law V evs ([], X)
  have ht : evs.foldl (tStep (max num 0)) (puts evs, [], X) = trim evs X (max num 0) := rfl
  have hc : evs.foldl (cStep V) ([], X) = collect evs X V := rfl
  rw [ht] at t1 t2 t3 htl
  rw [hc] at c1 c2 hcl
  generalize trim evs X (max num 0) = tr at *
  generalize collect evs X V = co at *
  obtain ⟨j1, q1⟩ := (p57 (real .isE (tr.2.1.map encEv)) tr.2.1 (by omega) (vec tr.2.2)).at pr_mono
  obtain ⟨j2, q2⟩ := (p57 false evs (by omega) (vec X)).at pr_mono
  obtain ⟨j3, q3⟩ := (p57 (real .isE (co.1.map encEv)) co.1 (by omega) (vec co.2)).at pr_mono
  obtain ⟨j4, q4⟩ := (p31 hX (b := tr.2.2) (by rw [htl.2.2.2, hX])).at pr_mono
  obtain ⟨j5, q5⟩ := (p31 hX (b := co.2) (by rw [hcl.2, hX])).at pr_mono
  obtain ⟨k22, h22⟩ := Plays.all pr_mono (T := lookT tab) (pr := fun _ => clonePr clones) (f := 22) (vs := fun i => [vecF V, dotF (evs.getD i d0).r (evs.getD i d0).n]) (bs := fun _ => []) (r := fun i => (bl (hasB V (evs.getD i d0).r (evs.getD i d0).n), [])) (m := evs.length) (fun i hi => p22 hV _ _)
  obtain ⟨N, hN⟩ : ∃ N, N = (k53 + k54 + k55 + k56) + (j1 + j2 + j3 + j4 + j5) + k22 + evs.length + 1 := ⟨_, rfl⟩
  refine Plays.wp (vf := v11) rfl rfl ⟨N, fun A call hA hcall => ?_⟩
  subst hA
  subst hcall
  have hs1 : real .seg (tr.2.1.map encEv) 0 tr.2.1.length = tr.2.1.map encEv := by have := seg_all (tr.2.1.map encEv); rw [List.length_map] at this; exact this
  have hs3 : real .seg (co.1.map encEv) 0 co.1.length = co.1.map encEv := by have := seg_all (co.1.map encEv); rw [List.length_map] at this; exact this
  have hpd := puts_drops tr.2.1
  refine w11 real _ N evs.length (by omega) (evs.map encEv) (tr.2.1.map encEv) (co.1.map encEv) (vec X) (vec V) (vec tr.2.2) (vec co.2) num (drops tr.2.1) (drops evs) (drops co.1) tr.2.1.length co.1.length few (fun i => evs.getD i d0) (fun i => (opens V (evs.take i) : Int)) (fun i => (i : Int)) rfl rfl
    (h53 N (by omega)) (h54 N (by omega)) (h55 N (by omega)) (h56 N (by omega))
    (fun i hi => by rw [lss_real, len_real]; simpa using hi) (by rw [lss_real, len_real]; simp) (fun i hi => by rw [get_ev hi, getD_ev hi]) (fun i hi => inc_real (by omega)) (fun i hi => ?_)
    (by rw [hs1]; exact q1 N (by omega)) (q2 N (by omega)) (by rw [hs3]; exact q3 N (by omega)) ?_ ?_ ?_ ?_ ?_
  · have h := h22 N (by omega) i hi
    have ho := opens_take (V := V) hi
    have hol : opens V (evs.take i) ≤ (evs.take i).length := List.countP_le_length
    simp only [List.length_take] at hol
    rw [getD_ev hi] at h
    simp only [getD_ev hi, eql_real, decide_eq_true_eq, decide_eq_false_iff_not]
    by_cases hk : evs[i].k = 2
    · right
      cases hb : hasB V evs[i].r evs[i].n with
      | true =>
        left
        rw [hb] at h
        simp only [hk, hb, decide_true, Bool.not_true, Bool.and_false, Bool.false_eq_true, if_false] at ho
        exact ⟨hk, h, by rw [ho]; rfl⟩
      | false =>
        right
        rw [hb] at h
        simp only [hk, hb, decide_true, Bool.not_false, Bool.and_true, if_true] at ho
        exact ⟨hk, h, by rw [ho]; exact inc_real (by omega)⟩
    · left
      simp only [hk, decide_false, Bool.false_and, Bool.false_eq_true, if_false] at ho
      exact ⟨hk, by rw [ho]; rfl⟩
  · rw [eql_real, t1]; simp [drops]
  · rw [eql_real, List.take_length, c1]; simp [drops, opens]
  · have hsub : real .ar .sub .i64 (real .ofN tr.2.1.length) (drops tr.2.1 : Int) = (puts tr.2.1 : Int) := by
      rw [real_ofN, sub_real (by unfold inI; omega)]; omega
    rw [hsub, leq_real, mx_real]
    exact decide_eq_true t2
  · have := q4 N (by omega)
    rw [within_of t3] at this
    exact this
  · have := q5 N (by omega)
    rw [within_of c2] at this
    exact this

/-! ### Shapes -/
def iSh : Sh := .int .i64
def dotSh : Sh := .pair iSh (.pair iSh .unit)
def evSh : Sh := .pair dotSh (.pair iSh (.pair iSh (.pair .str (.pair iSh (.pair .str (.pair (.sl dotSh 16) .unit))))))
def vecSh : Sh := .row 64 iSh
def pastSh : Sh := .pair (.sl evSh 96) (.pair vecSh .unit)
theorem ty_int {xs : List IV} (h : TyI iSh xs) : ∃ n, xs = [.int .i64 n] := by
  obtain ⟨n, h, _⟩ := h; exact ⟨n, h⟩
theorem ty_ev {c : List IV} (h : TyI evSh c) : ∃ e : Ev, c = encEv e ∧ e.g.length * 16 ≤ reachBytes := by
  obtain ⟨y1, z1, rfl, ⟨a1, b1, rfl, ⟨r, rfl, _⟩, ⟨a2, b2, rfl, ⟨n, rfl, _⟩, rfl⟩⟩, ⟨y2, z2, rfl, ⟨t, rfl, _⟩, ⟨y3, z3, rfl, ⟨k, rfl, _⟩, ⟨y4, z4, rfl, ⟨d, rfl, _⟩, ⟨y5, z5, rfl, ⟨f, rfl, _⟩, ⟨y6, z6, rfl, ⟨x, rfl, _⟩, ⟨y7, z7, rfl, ⟨g, rfl, hg, _⟩, rfl⟩⟩⟩⟩⟩⟩⟩ := h
  exact ⟨⟨r, n, t, k, d, f, x, false, g⟩, rfl, hg⟩
theorem ty_list {α : Type} {enc : α → List IV} {Q : α → Prop} : ∀ {es : List (List IV)}, (∀ c, c ∈ es → ∃ a, c = enc a ∧ Q a) → ∃ l : List α, es = l.map enc ∧ ∀ a, a ∈ l → Q a
  | [], _ => ⟨[], rfl, by simp⟩
  | c :: r, h => by
    obtain ⟨a, rfl, ha⟩ := h c (by simp)
    obtain ⟨l, rfl, hl⟩ := ty_list (es := r) (enc := enc) (Q := Q) fun c hc => h c (by simp [hc])
    exact ⟨a :: l, rfl, by simpa using ⟨ha, hl⟩⟩
theorem ty_vec {xs : List IV} (h : TyI vecSh xs) : ∃ v : List Int, xs = [.arr 64 (vec v)] ∧ v.length = 64 := by
  obtain ⟨ys, rfl, hl, hy⟩ := h
  have : ∃ v : List Int, ys = vec v := by
    clear hl
    induction ys with
    | nil => exact ⟨[], rfl⟩
    | cons y r ih =>
      obtain ⟨n, hn⟩ := ty_int (hy y (by simp))
      obtain ⟨v, rfl⟩ := ih fun z hz => hy z (by simp [hz])
      simp only [List.cons.injEq, and_true] at hn
      subst hn
      exact ⟨n :: v, rfl⟩
  obtain ⟨v, rfl⟩ := this
  exact ⟨v, rfl, by simpa [vec] using hl⟩
theorem ty_past {xs : List IV} (h : TyI pastSh xs) : ∃ (evs : List Ev) (v : List Int), xs = [.sl false 8 (evs.map encEv), .arr 64 (vec v)] ∧ v.length = 64 ∧ evs.length * 96 ≤ reachBytes ∧ ∀ e, e ∈ evs → e.g.length * 16 ≤ reachBytes := by
  obtain ⟨y1, z1, rfl, ⟨es, rfl, he, hes⟩, ⟨y2, z2, rfl, hv, rfl⟩⟩ := h
  obtain ⟨v, rfl, hvl⟩ := ty_vec hv
  obtain ⟨l, rfl, hl⟩ := ty_list (enc := encEv) (fun c hc => ty_ev (hes c hc))
  exact ⟨l, v, rfl, hvl, by simpa using he, hl⟩

theorem lawV : ∀ xss, TyA [pastSh, iSh, vecSh] xss → ∃ n, play real (lookT tab) (fun _ => clonePr clones) n 11 (argsF [pastSh, iSh, vecSh] xss) [] = some (.one (.iv (.bool true)), []) := by
  intro xss h
  rcases xss with _ | ⟨a, _ | ⟨b, _ | ⟨c, _ | ⟨d, r⟩⟩⟩⟩
  · exact h.elim
  · exact h.2.elim
  · exact h.2.2.elim
  · obtain ⟨h1, h2, h3, _⟩ := h
    obtain ⟨evs, X, rfl, hX, hl, hg⟩ := ty_past h1
    obtain ⟨num, rfl⟩ := ty_int h2
    obtain ⟨V, rfl, hV⟩ := ty_vec h3
    exact law11 evs hl hg hX hV num
  · exact h.2.2.2.elim
end Go.Proofs.Ytomchclmnmhjaaa
