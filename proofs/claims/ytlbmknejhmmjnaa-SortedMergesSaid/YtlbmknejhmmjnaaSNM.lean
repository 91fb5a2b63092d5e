/- 'SortedMerges': the statement's own code; the statement of all data. -/
import Derived.Test.YtlbmknejhmmjnaaSNL
set_option linter.unusedSimpArgs false
set_option linter.unusedVariables false
set_option maxRecDepth 100000
set_option maxHeartbeats 2000000
set_option cbv.maxSteps 10000000
namespace Go.Proofs.Ytlbmknejhmmjnaa
open Go GoV

theorem p13N : Pn 200 13 [] [] (bl true) [] := by
  have h : play real (lookT tab) (fun _ => clonePr clones) 200 13 [] [] = some (bl true, []) := by kernel_rfl
  exact fun m hm => play_mono pr_mono hm _ _ _ _ h
def eL (l : List Int) : List IV := [.sl false 1 (l.map e1)]
/-- How many were taken ahead of list j. -/
def nS (L : List (List Int)) : Nat → Nat
  | 0 => 0
  | j + 1 => nS L j + min (L.getD j []).length (200 - nS L j)
theorem nS_le (L : List (List Int)) : ∀ j, nS L j ≤ 200
  | 0 => by simp [nS]
  | j + 1 => by have := nS_le L j; simp only [nS]; omega
def cS (L : List (List Int)) (j : Nat) : List Int := (L.getD j []).take (200 - nS L j)
theorem cS_len (L : List (List Int)) (j : Nat) : (cS L j).length = min (L.getD j []).length (200 - nS L j) := by
  simp only [cS, List.length_take]; omega
def sS (L : List (List Int)) (j : Nat) : List Int := srt (cS L j) 10
theorem sS_len (L : List (List Int)) (j : Nat) : (sS L j).length = (cS L j).length := (srt_all _).length_eq
theorem fl_succ (m : Nat) (S : Nat → List Int) : fl (m + 1) S = fl m S ++ S m := by simp [fl, List.range_succ, List.flatMap_append]
theorem fl_nS (L : List (List Int)) : ∀ j, (fl j (sS L)).length = nS L j
  | 0 => by simp [fl, nS]
  | j + 1 => by rw [fl_succ, List.length_append, fl_nS L j, sS_len, cS_len]; rfl
theorem lsE_succ (m : Nat) (fs : Nat → Bool) (S : Nat → List Int) : lsE (m + 1) fs S = lsE m fs S ++ [[.sl (fs m) 1 ((S m).map e1)]] := by simp [lsE, List.range_succ]
theorem law3 (L : List (List Int)) (hL : L.length * 24 ≤ reachBytes) (hl : ∀ l, l ∈ L → l.length * 8 ≤ reachBytes) (hin : ∀ l, l ∈ L → ∀ y, y ∈ l → inR y) : Pl 3 [.one (.iv (.sl false 1 (L.map eL)))] (bl true) [] := by
  have hrb : reachBytes = 140737488351232 := rfl
  refine Plays.wp (vf := v3) rfl rfl ⟨4000, fun A call hA hcall => ?_⟩
  have k13 : call 13 [] [] = some (bl true, []) := by rw [hcall]; exact p13N 4000 (by omega)
  obtain ⟨mp, hmp⟩ : ∃ mp : List Int → List (List IV), ∀ c, mp c = c.map e1 := ⟨_, fun _ => rfl⟩
  obtain ⟨S, hS⟩ : ∃ S : Nat → List Int, ∀ j, S j = sS L j := ⟨_, fun _ => rfl⟩
  obtain ⟨C, hC⟩ : ∃ C : Nat → List Int, ∀ j, C j = cS L j := ⟨_, fun _ => rfl⟩
  obtain ⟨fs, hfs⟩ : ∃ fs : Nat → Bool, ∀ j, fs j = A .isE (mp (S j)) := ⟨_, fun _ => rfl⟩
  obtain ⟨N, hN⟩ : ∃ N : Nat → Int, ∀ j, N j = nS L j := ⟨_, fun _ => rfl⟩
  obtain ⟨I, hI⟩ : ∃ I : Nat → Int, ∀ i, I i = i := ⟨_, fun _ => rfl⟩
  have i0 : I 0 = 0 := hI 0
  have n0 : N 0 = 0 := by rw [hN]; rfl
  obtain ⟨es, hes⟩ : ∃ es, es = L.map eL := ⟨_, rfl⟩
  obtain ⟨M, hM⟩ : ∃ v : Int, v = L.length := ⟨_, rfl⟩
  have l1 : A .len es = M := by rw [hA, hes, hM, real_len]; simp
  have hSe : S = sS L := by funext j; rw [hS]
  have hcin : ∀ j, ∀ y, y ∈ C j → inR y := fun j y hy => by
    rw [hC, cS] at hy
    have hy := List.mem_of_mem_take hy
    rw [List.getD_eq_getElem?_getD] at hy
    cases e : L[j]? with
    | none => rw [e] at hy; simp at hy
    | some l => rw [e] at hy; exact hin l (List.mem_of_getElem? e) y hy
  have hsin : ∀ j, ∀ y, y ∈ S j → inR y := fun j y hy => by
    rw [hS, sS] at hy
    exact hcin j y (by rw [hC]; exact (srt_all _).mem_iff.1 hy)
  have hCl : ∀ j, (C j).length ≤ 200 := fun j => by rw [hC, cS_len]; omega
  have hSl : ∀ j, (S j).length = (C j).length := fun j => by rw [hS, hC, sS_len]
  have k9 : ∀ j, call 9 [.one (.iv (.sl false 1 (mp (C j))))] [] = some (.one (.slo 0 0 (S j).length), [.arr false false 1 (mp (S j))]) := fun j => by
    obtain ⟨n, hn, h⟩ := p9 false (C j) (by have := hCl j; omega) (hcin j)
    have h := h 4000 (by omega)
    rw [← hn] at h
    rw [hcall, hmp, hmp, hS, sS, ← hC]
    exact h
  have sg : ∀ l : List Int, A .seg (mp l) 0 l.length = mp l := fun l => by
    rw [hA, hmp, real_seg]; simp only [rSeg, List.drop_zero]; exact List.take_of_length_le (by simp)
  obtain ⟨SO, hSO⟩ : ∃ SO : Nat → List (List IV), ∀ j, SO j = lsE j fs S := ⟨_, fun _ => rfl⟩
  obtain ⟨AO, hAO⟩ : ∃ AO : Nat → List (List IV), ∀ j, AO j = mp (fl j S) := ⟨_, fun _ => rfl⟩
  obtain ⟨al, hal⟩ : ∃ al : Nat → Nat, ∀ j, al j = (fl j S).length := ⟨_, fun _ => rfl⟩
  have hal2 : ∀ j, al j ≤ 200 := fun j => by rw [hal, hSe, fl_nS]; exact nS_le L j
  have hSOl : ∀ j, (SO j).length = j := fun j => by rw [hSO]; simp [lsE]
  have ap1 : ∀ j, j ≤ 100 → A .apo 24 0 j (SO j) [[.sl (A .isE (mp (S j))) 1 (mp (S j))]] = some (true, SO (j + 1)) ∧ A .ln (SO (j + 1)) = j + 1 := fun j hj => by
    have e : SO (j + 1) = SO j ++ [[.sl (A .isE (mp (S j))) 1 (mp (S j))]] := by rw [hSO, hSO, lsE_succ, hfs, hmp]
    have hl := hSOl j
    rw [e, ← hfs]
    rw [hA, real_apo, real_ln]
    have : (j + 1) * 24 ≤ room := by unfold room; omega
    simp [rApo, hl, this]
  have ap2 : ∀ j, A .apo 8 0 (al j) (AO j) (mp (S j)) = some (true, AO (j + 1)) ∧ A .ln (AO (j + 1)) = al (j + 1) := fun j => by
    have e : fl (j + 1) S = fl j S ++ S j := fl_succ j S
    rw [hAO, hAO, hal, hal, e, hmp, hmp, hmp, hA, real_apo, real_ln]
    have h1 := hal2 j
    rw [hal] at h1
    have h2 := hCl j
    have h3 := hSl j
    have : ((fl j S).length + (S j).length) * 8 ≤ room := by unfold room; omega
    simp [rApo, this]
  have so0 : SO 0 = [] := by rw [hSO]; rfl
  have ao0 : AO 0 = [] := by rw [hAO, hmp]; rfl
  have al0 : al 0 = 0 := by rw [hal]; rfl
  rw [← hes]
  -- behind the loop
  have kT : ∀ m, m ≤ 20 → call 11 [.one (.iv (.fn 12)), .one (.iv (.sl (A .isE (SO m)) 1 (SO m)))] [] = some (.one (.slo 0 0 (srt (fl m S) 10).length), [.arr false false 1 (mp (srt (fl m S) 10))]) ∧
      call 9 [.one (.iv (.sl (A .isE (AO m)) 1 (AO m)))] [] = some (.one (.slo 0 0 (srt (fl m S) 10).length), [.arr false false 1 (mp (srt (fl m S) 10))]) ∧
      A .seg (SO m) 0 m = SO m ∧ A .seg (AO m) 0 (al m) = AO m := fun m hm => by
    have hfl : (fl m S).length ≤ 200 := by rw [← hal]; exact hal2 m
    have hflin : ∀ y, y ∈ fl m S → inR y := fun y hy => by
      obtain ⟨i, _, h⟩ := List.mem_flatMap.1 hy
      exact hsin i y h
    refine ⟨?_, ?_, ?_, ?_⟩
    · rw [hcall, hmp]
      have h := q11 (A .isE (SO m)) m fs S (by omega) (fun i _ => hsin i) (fun i _ => by rw [hS]; exact srt_sorted _ _) (by omega) 4000 (by omega)
      rw [← hSO] at h
      exact h
    · obtain ⟨n, hn, h⟩ := p9 (A .isE (AO m)) (fl m S) (by omega) hflin
      have h := h 4000 (by omega)
      rw [← hn] at h
      rw [hcall, hmp]
      have e : AO m = (fl m S).map e1 := by rw [hAO, hmp]
      have h' : ∀ E, E = (fl m S).map e1 → play real (lookT tab) (fun _ => clonePr clones) 4000 9 [.one (.iv (.sl (A .isE (AO m)) 1 E))] [] = some (.one (.slo 0 0 (srt (fl m S) 10).length), [.arr false false 1 ((srt (fl m S) 10).map e1)]) := fun E hE => by subst hE; exact h
      exact h' _ e
    · rw [hA, real_seg]; simp only [rSeg, List.drop_zero]; exact List.take_of_length_le (by rw [hSOl]; exact Nat.le_refl _)
    · rw [hAO, hal]; exact sg _
  have k10 : ∀ (f g : Bool) (l : List Int), l.length ≤ 1000 → call 10 [.one (.iv (.sl f 1 (mp l))), .one (.iv (.sl g 1 (mp l)))] [] = some (bl true, []) := fun f g l hl => by rw [hcall, hmp]; exact p10 f g l hl 4000 (by omega)
  apply wpV_seq; refine wpV_of (by ((conv => lhs; cbv); (try (with_reducible rfl)))) ?_
  apply wpV_seq; refine wpV_of (by ((conv => lhs; cbv); (try (with_reducible rfl)))) ?_
  apply wpV_seq; refine wpV_of (by ((conv => lhs; cbv); (try (with_reducible rfl)))) ?_
  apply wpV_seq; refine wpV_of (by ((conv => lhs; cbv); (try (with_reducible rfl)))) ?_
  apply wpV_seq; apply wpV_seq; refine wpV_of (by ((conv => lhs; cbv); (repeat ((first | rewrite [l1]); (try (conv => lhs; cbv)))); (try (with_reducible rfl)))) ?_
  apply wpV_block
  refine wpV_loop 20 (fun j st => j ≤ L.length ∧ st = ⟨0, [u, u, u, .one (.slo 0 0 j), .one (.slo 1 0 (al j)), i64 (N j), u, u, .one (.iv (.sl false 1 es)), i64 M, i64 (I j), u, u, u, u, u, u, u, u, u, u, u, u, u, u, u, u, u, u, u, u, u, u, u, u, u, u, u, u, u, u, u, u, u, u, u], [.arr false false 1 (SO j), .arr false false 1 (AO j)]⟩) (by omega) (by ((conv => lhs; cbv); (repeat ((first | rewrite [l1]); (try (conv => lhs; cbv)))); (try (with_reducible rfl)))) ⟨Nat.zero_le _, by rw [i0, n0, so0, ao0, al0, l1]⟩ ?_
  rintro j hj st ⟨hjL, rfl⟩
  obtain ⟨t1, t2, t3, t4⟩ := kT j hj
  have t5 := fun f g => k10 f g (srt (fl j S) 10) (by rw [(srt_all _).length_eq, ← hal]; have := hal2 j; omega)
  have t6 := sg (srt (fl j S) 10)
  by_cases hjm : j < L.length
  · have c1 := ltT hA (a := I j) (b := M) (by rw [hI]; omega)
    have g1 : A .get es (I j) = some [.sl false 1 ((L.getD j []).map e1)] := by
      rw [hA, hI, hes, real_get]; simp [hjm, eL]
    by_cases hj20 : j < 20
    · have c2 := geF hA (a := I j) (b := 20) (by rw [hI]; omega)
      have hnj := nS_le L j
      obtain ⟨lj, hlj⟩ : ∃ lj, lj = (L.getD j []).map e1 := ⟨_, rfl⟩
      rw [← hlj] at g1
      obtain ⟨Lj, hLj⟩ : ∃ v : Int, v = (L.getD j []).length := ⟨_, rfl⟩
      have l2 : A .len lj = Lj := lenE hA hlj hLj
      obtain ⟨D, hD⟩ : ∃ v : Int, v = 200 - N j := ⟨_, rfl⟩
      have hNj := hN j
      have s1 := subR hA hD (by omega)
      obtain ⟨Q, hQ⟩ : ∃ v : Int, v = min Lj D := ⟨_, rfl⟩
      have m1 := miR hA hQ
      have hQn : Q = (C j).length := by rw [hC, cS_len]; omega
      have sb : A .sub lj none (some Q) = some (mp (C j)) := by
        rw [hA, hQn, real_sub, hlj, hmp]
        have hle : (C j).length ≤ (L.getD j []).length := by rw [hC, cS_len]; omega
        simp only [rSub, rCut, rBound, List.length_map]
        rw [if_pos (by omega)]
        have e : C j = (L.getD j []).take (C j).length := by
          rw [hC, cS, List.length_take, List.take_eq_take_iff]; omega
        simp only [Option.bind_some, Int.toNat_natCast, List.drop_zero, Option.some.injEq]
        conv => rhs; rw [e, List.map_take]
      have l3 : A .len (mp (C j)) = Q := by rw [hmp]; exact lenE hA rfl hQn
      have ad := addR hA (a := N j) (b := Q) (c := N (j + 1)) (by rw [hN, hN, hQn, hC, cS_len]; simp only [nS]; omega) (by rw [hN]; have := nS_le L (j + 1); omega)
      have k9j := k9 j
      have sgj := sg (S j)
      obtain ⟨b1, b2⟩ := ap1 j (by omega)
      obtain ⟨b3, b4⟩ := ap2 j
      have inc := addR hA (a := I j) (b := 1) (c := I (j + 1)) (by rw [hI, hI]; omega) (by rw [hI]; omega)
      clear t1 t2 t3 t4 t5 t6
      generalize mp (C j) = CE at *
      generalize mp (S j) = SE at *
      generalize (S j).length = sn at *
      refine wpV_of (by ((conv => lhs; cbv); (repeat ((first | rewrite [c1] | rewrite [g1] | rewrite [c2] | rewrite [l2] | rewrite [s1] | rewrite [m1] | rewrite [sb] | rewrite [l3] | rewrite [ad] | rewrite [k9j] | rewrite [sgj] | rewrite [b1] | rewrite [b2] | rewrite [b3] | rewrite [b4]); (try (conv => lhs; cbv)))); (try (with_reducible rfl)))) ?_
      refine headQ_of (by ((conv => lhs; cbv); (try (with_reducible rfl)))) ?_
      exact ⟨hj20, by omega, (by ((repeat (first | rewrite [inc] | rewrite [ad] | rewrite [b2] | rewrite [b4] | rewrite [l2] | rewrite [l3] | rewrite [s1] | rewrite [m1])); (try rfl)))⟩
    · have c2 := geT hA (a := I j) (b := 20) (by rw [hI]; omega)
      generalize (L.getD j []).map e1 = lj at *
      generalize mp (srt (fl j S) 10) = ST at *
      generalize (srt (fl j S) 10).length = sn at *
      refine wpV_of (by ((conv => lhs; cbv); (repeat ((first | rewrite [c1] | rewrite [g1] | rewrite [c2]); (try (conv => lhs; cbv)))); (try (with_reducible rfl)))) ?_
      show wpV _ _ _ _ _ _
      (refine wpV_of (by ((conv => lhs; cbv); (repeat ((first | rewrite [t3] | rewrite [t1] | rewrite [t4] | rewrite [t2] | rewrite [t6] | rewrite [t5] | rewrite [k13]); (try (conv => lhs; cbv)))); (try (with_reducible rfl)))) ?_; (show finV _ _ _ = some _; ((conv => lhs; cbv); (repeat ((first | rewrite [t3] | rewrite [t1] | rewrite [t4] | rewrite [t2] | rewrite [t6] | rewrite [t5] | rewrite [k13]); (try (conv => lhs; cbv)))); (try (with_reducible rfl))); (try rfl)))
  · have c1 := ltF hA (a := I j) (b := M) (by rw [hI]; omega)
    generalize mp (srt (fl j S) 10) = ST at *
    generalize (srt (fl j S) 10).length = sn at *
    refine wpV_of (by ((conv => lhs; cbv); (repeat ((first | rewrite [c1]); (try (conv => lhs; cbv)))); (try (with_reducible rfl)))) ?_
    show wpV _ _ _ _ _ _
    (refine wpV_of (by ((conv => lhs; cbv); (repeat ((first | rewrite [t3] | rewrite [t1] | rewrite [t4] | rewrite [t2] | rewrite [t6] | rewrite [t5] | rewrite [k13]); (try (conv => lhs; cbv)))); (try (with_reducible rfl)))) ?_; (show finV _ _ _ = some _; ((conv => lhs; cbv); (repeat ((first | rewrite [t3] | rewrite [t1] | rewrite [t4] | rewrite [t2] | rewrite [t6] | rewrite [t5] | rewrite [k13]); (try (conv => lhs; cbv)))); (try (with_reducible rfl))); (try rfl)))

def iSh : Sh := .int .i64
theorem ty_ints {xs : List IV} (h : TyI (.sl iSh 8) xs) : ∃ l : List Int, xs = eL l ∧ l.length * 8 ≤ reachBytes ∧ ∀ y, y ∈ l → inR y := by
  obtain ⟨es, rfl, he, hes⟩ := h
  have : ∃ l : List Int, es = l.map e1 ∧ ∀ y, y ∈ l → inR y := by
    clear he
    induction es with
    | nil => exact ⟨[], rfl, by simp⟩
    | cons c r ih =>
      obtain ⟨n, hn, hw⟩ := hes c (by simp)
      obtain ⟨l, hl, hi⟩ := ih fun z hz => hes z (by simp [hz])
      refine ⟨n :: l, by rw [hl, hn]; rfl, ?_⟩
      intro y hy
      rcases List.mem_cons.1 hy with rfl | hy
      · simp [Lit.wf, IntKind.min, IntKind.max, IntKind.signed, IntKind.bits] at hw
        unfold inR
        omega
      · exact hi y hy
  obtain ⟨l, rfl, hi⟩ := this
  exact ⟨l, rfl, by simpa using he, hi⟩
theorem ty_intss {xs : List IV} (h : TyI (.sl (.sl iSh 8) 24) xs) : ∃ L : List (List Int), xs = [.sl false 1 (L.map eL)] ∧ L.length * 24 ≤ reachBytes ∧ (∀ l, l ∈ L → l.length * 8 ≤ reachBytes) ∧ ∀ l, l ∈ L → ∀ y, y ∈ l → inR y := by
  obtain ⟨es, rfl, he, hes⟩ := h
  have : ∃ L : List (List Int), es = L.map eL ∧ ∀ l, l ∈ L → l.length * 8 ≤ reachBytes ∧ ∀ y, y ∈ l → inR y := by
    clear he
    induction es with
    | nil => exact ⟨[], rfl, by simp⟩
    | cons c r ih =>
      obtain ⟨l, hl, h1, h2⟩ := ty_ints (hes c (by simp))
      obtain ⟨L, hL, hi⟩ := ih fun z hz => hes z (by simp [hz])
      refine ⟨l :: L, by rw [hL, hl]; rfl, ?_⟩
      intro y hy
      rcases List.mem_cons.1 hy with rfl | hy
      · exact ⟨h1, h2⟩
      · exact hi y hy
  obtain ⟨L, rfl, hi⟩ := this
  exact ⟨L, rfl, by simpa using he, fun l hl => (hi l hl).1, fun l hl => (hi l hl).2⟩
theorem lawV : ∀ xss, TyA [.sl (.sl iSh 8) 24] xss → ∃ n, play real (lookT tab) (fun _ => clonePr clones) n 3 (argsF [.sl (.sl iSh 8) 24] xss) [] = some (.one (.iv (.bool true)), []) := by
  intro xss h
  rcases xss with _ | ⟨a, _ | ⟨b, r⟩⟩
  · exact h.elim
  · obtain ⟨h1, _⟩ := h
    obtain ⟨L, rfl, g1, g2, g3⟩ := ty_intss h1
    exact law3 L g1 g2 g3
  · exact h.2.elim
end Go.Proofs.Ytlbmknejhmmjnaa
