/- 'SortedBest': the statement's own code; the statement of all data. -/
import Derived.Test.YtlbmknejhmmjnaaSMN
set_option linter.unusedSimpArgs false
set_option linter.unusedVariables false
set_option maxRecDepth 100000
set_option maxHeartbeats 2000000
set_option cbv.maxSteps 10000000
namespace Go.Proofs.Ytlbmknejhmmjnaa
open Go GoV

theorem p13N : Pn 200 13 [] [] (bl true) [] := by
  have h : play real (lookT tab) (fun _ => clonePr clones) 200 13 [] [] = some (bl true, []) := by kernel_rfl
  exact fun m hm => play_mono pr_mono hm _ _ _ _ h
theorem law4 (k : Int) (l0 : List Int) (hl0 : l0.length * 8 ≤ reachBytes) (hin0 : ∀ y, y ∈ l0 → inR y) : Pl 4 [i64 k, slE false l0] (bl true) [] := by
  have hrb : reachBytes = 140737488351232 := rfl
  obtain ⟨K, hK⟩ : ∃ K : Nat, (K : Int) = max k 0 := ⟨(max k 0).toNat, by omega⟩
  obtain ⟨cs, hcs⟩ : ∃ cs, cs = min l0.length 200 := ⟨_, rfl⟩
  obtain ⟨l, hl⟩ : ∃ l, l = l0.take cs := ⟨_, rfl⟩
  have hll : l.length = cs := by rw [hl, List.length_take]; omega
  have hin : ∀ y, y ∈ l → inR y := fun y hy => hin0 y (by rw [hl] at hy; exact List.mem_of_mem_take hy)
  refine Plays.wp (vf := v4) rfl rfl ⟨2000, fun A call hA hcall => ?_⟩
  obtain ⟨KK, hKK⟩ : ∃ v : Int, v = K := ⟨_, rfl⟩
  have k14 : call 14 [i64 k, .one (.iv (.fn 12))] [] = some (.one (.ptr 0 0), bbk KK 0 false []) := by rw [hcall]; exact p14 k KK (by omega) 2000 (by omega)
  have k13 : call 13 [] [] = some (bl true, []) := by rw [hcall]; exact p13N 2000 (by omega)
  obtain ⟨ar, har⟩ : ∃ ar : List Int → List (List IV) → List (List IV), ∀ c zs, ar c zs = c.map e1 ++ zs := ⟨_, fun _ _ => rfl⟩
  obtain ⟨mp, hmp⟩ : ∃ mp : List Int → List (List IV), ∀ c, mp c = c.map e1 := ⟨_, fun _ => rfl⟩
  obtain ⟨es0, hes0⟩ : ∃ es0, es0 = l0.map e1 := ⟨_, rfl⟩
  obtain ⟨es, hes⟩ : ∃ es, es = l.map e1 := ⟨_, rfl⟩
  obtain ⟨N0, hN0⟩ : ∃ v : Int, v = l0.length := ⟨_, rfl⟩
  obtain ⟨C, hC⟩ : ∃ v : Int, v = cs := ⟨_, rfl⟩
  have l1 := lenE hA hes0 hN0
  have m1 : A .mi N0 200 = C := miR hA (by omega)
  have s1 : A .sub es0 none (some C) = some es := by
    rw [hA, hC, real_sub, hes0, hes, hl]
    simp only [rSub, rCut, rBound, List.length_map]
    rw [if_pos (by omega)]
    simp
  have l2 : A .len es = C := lenE hA hes (by omega)
  obtain ⟨I, hI⟩ : ∃ I : Nat → Int, ∀ i, I i = i := ⟨_, fun _ => rfl⟩
  have i0 : I 0 = 0 := hI 0
  dsimp only [slE]
  rw [← hes0]
  apply wpV_seq; refine wpV_of (by ((conv => lhs; cbv); (try (with_reducible rfl)))) ?_
  apply wpV_seq; refine wpV_of (by ((conv => lhs; cbv); (repeat ((first | rewrite [l1] | rewrite [m1] | rewrite [s1]); (try (conv => lhs; cbv)))); (try (with_reducible rfl)))) ?_
  apply wpV_seq; refine wpV_of (by ((conv => lhs; cbv); (repeat ((first | rewrite [k14]); (try (conv => lhs; cbv)))); (try (with_reducible rfl)))) ?_
  apply wpV_seq; apply wpV_seq; refine wpV_of (by ((conv => lhs; cbv); (repeat ((first | rewrite [l2]); (try (conv => lhs; cbv)))); (try (with_reducible rfl)))) ?_
  apply wpV_block
  refine wpV_loop cs (fun j st => ∃ (c : List Int) (zs : List (List IV)), (Heap ltB c ∧ Off K (l.take j).reverse c ∧ (∀ y, y ∈ c → inR y)) ∧ st = ⟨0, (i64 k :: .one (.iv (.sl false 1 es)) :: u :: u :: u :: .one (.ptr 0 0) :: u :: u :: u :: u :: u :: u :: u :: u :: u :: u :: u :: u :: u :: u :: .one (.iv (.sl false 1 es)) :: i64 C :: i64 (I j) :: u :: u :: u :: u :: u :: u :: u :: u :: u :: u :: u :: u :: u :: u :: u :: u :: u :: u :: u :: u :: u :: u :: u :: u :: u :: u :: u :: u :: u :: u :: u :: u :: u :: u :: u :: u :: u :: u :: u :: u :: u :: u :: []), bbk KK c.length false (ar c zs)⟩) (by omega) (by ((conv => lhs; cbv); (repeat ((first | rewrite [l2]); (try (conv => lhs; cbv)))); (try (with_reducible rfl))))
    ⟨[], [], ⟨fun k h => by simp at h, by simpa using off_nil K, by simp⟩, by rw [i0, har, l2]; rfl⟩ ?_
  rintro j hj st ⟨c, zs, ⟨hc, ho, hcin⟩, rfl⟩
  have hcl : c.length ≤ 200 := by have := ho.1; simp only [List.length_reverse, List.length_take] at this; omega
  by_cases hjn : j < cs
  · have hjl : j < l.length := by omega
    have c1 := ltT hA (a := I j) (b := C) (by rw [hI]; omega)
    have g1 := getE hA hes (hI j) hjl
    have inc := addR hA (a := I j) (b := 1) (c := I (j + 1)) (by rw [hI, hI]; omega) (by rw [hI]; omega)
    obtain ⟨r, ⟨c', zs', g, h1, h2, rfl⟩, k15⟩ := p15 K (l.take j).reverse c zs l[j] hc ho (by omega) hcin (hin _ (List.getElem_mem hjl))
    have k15 := k15 2000 (by omega)
    rw [← hcall, ← har, ← har, ← hKK] at k15
    have h2' : Off K (l.take (j + 1)).reverse c' := by
      rw [List.take_succ_eq_append_getElem hjl, List.reverse_append]; exact h2
    have hcin' : ∀ y, y ∈ c' → inR y := by
      obtain ⟨_, d, hp, _⟩ := h2'
      intro y hy
      have := hp.mem_iff.2 (List.mem_append.2 (.inl hy))
      exact hin y (List.mem_of_mem_take (List.mem_reverse.1 this))
    generalize l[j] = x at *
    generalize hE : ar c zs = E at *
    generalize hE' : ar c' zs' = E' at *
    generalize hcn : c'.length = cn at *
    generalize c.length = cn0 at *
    dsimp only [e1] at g1
    cases g with
    | false =>
      refine wpV_of (by ((conv => lhs; cbv); (repeat ((first | rewrite [c1] | rewrite [g1] | rewrite [k15]); (try (conv => lhs; cbv)))); (try (with_reducible rfl)))) ?_
      refine headQ_of (by ((conv => lhs; cbv); (try (with_reducible rfl)))) ?_
      exact ⟨hjn, c', zs', ⟨h1, h2', hcin'⟩, by rw [inc, hE', hcn]⟩
    | true =>
      refine wpV_of (by ((conv => lhs; cbv); (repeat ((first | rewrite [c1] | rewrite [g1] | rewrite [k15]); (try (conv => lhs; cbv)))); (try (with_reducible rfl)))) ?_
      refine headQ_of (by ((conv => lhs; cbv); (try (with_reducible rfl)))) ?_
      exact ⟨hjn, c', zs', ⟨h1, h2', hcin'⟩, by rw [inc, hE', hcn]⟩
  · obtain rfl : j = cs := by omega
    have c1 := ltF hA (a := I j) (b := C) (by rw [hI]; omega)
    rw [← hll, List.take_length] at ho
    obtain ⟨r, ⟨o, zs1, hop, hos, rfl⟩, k16⟩ := p16 K c zs hc (by omega) hcin
    have k16 := k16 2000 (by omega)
    rw [← har] at k16
    have hoin : ∀ y, y ∈ o → inR y := fun y hy => hcin y (hop.mem_iff.1 hy)
    obtain ⟨hb1, hb2⟩ := best_law ho hop hos (List.reverse_perm l)
    obtain ⟨r', ⟨o', zs2, hop', _, rfl⟩, k16b⟩ := p16 K [] zs1 (fun k h => by simp at h) (by simp) (by simp)
    obtain rfl : o' = [] := List.Perm.eq_nil hop'
    have k16b := k16b 2000 (by omega)
    have hon : o.length = c.length := hop.length_eq
    have hnl : c.length = min K l.length := by have := ho.1; simpa using this
    obtain ⟨m, hm, k9⟩ := p9 false l (by omega) hin
    have k9 := k9 2000 (by omega)
    have hml : m = l.length := by rw [← hm]; exact (srt_all l).length_eq
    have hsin : ∀ y, y ∈ srt l 10 → inR y := fun y hy => hin y ((srt_all l).mem_iff.1 hy)
    have k17a := fun f => p17 f o (by omega) hoin 2000 (by omega)
    have k17b := fun f => p17 f ((srt l 10).take c.length) (by simp; omega) (fun y hy => hsin y (List.mem_of_mem_take hy)) 2000 (by omega)
    rw [← hnl] at hb1
    have htl : ((srt l 10).take c.length).length = c.length := by rw [List.length_take, hm]; omega
    rw [htl, ← hb1] at k17b
    have k10 := fun f g => p10 f g (o.map ky) (by simp; omega) 2000 (by omega)
    have k18 : ∀ x, x ∈ o → call 18 [slE false l, i64 x] [] = some (bl true, []) := fun x hx => by rw [hcall]; exact p18 false l (by omega) x (hb2 x hx) 2000 (by omega)
    obtain ⟨n, hn⟩ : ∃ n, n = c.length := ⟨_, rfl⟩
    obtain ⟨NN, hNN⟩ : ∃ v : Int, v = n := ⟨_, rfl⟩
    obtain ⟨M, hM⟩ : ∃ v : Int, v = m := ⟨_, rfl⟩
    have o1 := ofNR hA hM
    have o2 := ofNR hA hNN
    have o3 : A .ofN 0 = 0 := ofNR hA rfl
    have m2 : A .mx k 0 = KK := mxR hA (by omega)
    have m3 : A .mi KK M = NN := miR hA (by omega)
    have n0 := neF hA (a := 0) (b := 0) rfl
    have cu : A .cuts 0 m (A .ln (mp (srt l 10))) none (some NN) none = some (0, n) := by
      rw [hA, real_ln, hmp, hNN, real_cuts]
      simp only [List.length_map, hm, rCuts, rBound]
      rw [if_pos (by omega), if_pos (by omega)]
      simp
    have sg1 : A .seg (mp o) 0 n = mp o := by
      rw [hA, hmp, real_seg]; simp only [rSeg, List.drop_zero]; exact List.take_of_length_le (by simp; omega)
    have sg2 : A .seg (mp (srt l 10)) 0 n = mp ((srt l 10).take n) := by
      rw [hA, hmp, hmp, real_seg]; simp only [rSeg, List.drop_zero, List.map_take]
    have sg3 : A .seg (mp (o.map ky)) 0 n = mp (o.map ky) := by
      rw [hA, hmp, real_seg]; simp only [rSeg, List.drop_zero]; exact List.take_of_length_le (by simp; omega)
    have at1 : ∀ j, j < n → A .at_ (I j) n = some j ∧ A .getN (mp o) j = some (e1 (o.getD j 0)) := fun j hj => ⟨atR hA (hI j) hj, by
      have := getNR hA (c := o) (zs := []) (i := j) (by omega)
      rw [List.append_nil] at this
      rw [hmp, this]
      simp [show j < o.length by omega]⟩
    have hog : ∀ j, j < n → o.getD j 0 ∈ o := fun j hj => by
      have : j < o.length := by omega
      simp only [List.getD_eq_getElem?_getD, List.getElem?_eq_getElem this, Option.getD_some]
      exact List.getElem_mem this
    simp only [slE, ← hmp, ← har] at k9 k16 k16b k17a k17b k10 k18
    rw [← hcall] at k9 k16 k16b k17a k17b k10
    rw [hon] at k17a
    rw [← hn] at k16 k17a k17b ⊢
    rw [← hKK] at k16 k16b
    rw [show mp ([] : List Int) = [] by rw [hmp]; rfl, show ([] : List Int).length = 0 from rfl] at k16b
    rw [List.nil_append] at k16b
    rw [show mp l = es by rw [hmp, hes]] at k9 k18
    generalize ar c zs = E at *
    generalize mp (o.map ky) = EK at *
    generalize mp ((srt l 10).take n) = ET at *
    generalize mp (srt l 10) = ES at *
    generalize mp o = EO at *
    refine wpV_of (by ((conv => lhs; cbv); (repeat ((first | rewrite [c1]); (try (conv => lhs; cbv)))); (try (with_reducible rfl)))) ?_
    show wpV _ _ _ _ _ _
    apply wpV_seq; refine wpV_of (by ((conv => lhs; cbv); (repeat ((first | rewrite [k16] | rewrite [k9]); (try (conv => lhs; cbv)))); (try (with_reducible rfl)))) ?_
    apply wpV_seq; refine wpV_of (by ((conv => lhs; cbv); (repeat ((first | rewrite [m2] | rewrite [o1] | rewrite [m3]); (try (conv => lhs; cbv)))); (try (with_reducible rfl)))) ?_
    apply wpV_seq; refine wpV_of (by ((conv => lhs; cbv); (repeat ((first | rewrite [m2] | rewrite [o1] | rewrite [m3] | rewrite [sg1] | rewrite [k17a] | rewrite [cu] | rewrite [sg2] | rewrite [k17b] | rewrite [sg3] | rewrite [k10] | rewrite [k16b] | rewrite [o3] | rewrite [n0]); (try (conv => lhs; cbv)))); (try (with_reducible rfl)))) ?_
    apply wpV_seq; apply wpV_seq; refine wpV_of (by ((conv => lhs; cbv); (repeat ((first | rewrite [o2]); (try (conv => lhs; cbv)))); (try (with_reducible rfl)))) ?_
    apply wpV_block
    refine wpV_loop n (fun q st => ∃ z, st = ⟨0, (u :: .one (.iv (.sl false 1 es)) :: u :: u :: u :: u :: u :: u :: u :: u :: u :: u :: u :: u :: u :: u :: u :: u :: u :: u :: u :: u :: u :: u :: u :: u :: u :: u :: u :: u :: u :: u :: u :: u :: u :: u :: u :: u :: u :: u :: u :: u :: u :: u :: u :: u :: u :: u :: u :: u :: u :: u :: u :: .one (.slo 0 0 n) :: i64 NN :: i64 (I q) :: u :: u :: u :: u :: u :: u :: u :: u :: u :: []), [.arr z false 1 EO]⟩) (by omega) (by ((conv => lhs; cbv); (repeat ((first | rewrite [o2]); (try (conv => lhs; cbv)))); (try (with_reducible rfl)))) ⟨true, by rw [i0, o2]⟩ ?_
    rintro q hq st ⟨z, rfl⟩
    by_cases hqn : q < n
    · have c2 := ltT hA (a := I q) (b := NN) (by rw [hI]; omega)
      have inc := addR hA (a := I q) (b := 1) (c := I (q + 1)) (by rw [hI, hI]; omega) (by rw [hI]; omega)
      obtain ⟨a1, a2⟩ := at1 q hqn
      have kk := k18 _ (hog q hqn)
      generalize o.getD q 0 = x at *
      dsimp only [e1] at a2
      refine wpV_of (by ((conv => lhs; cbv); (repeat ((first | rewrite [c2] | rewrite [a1] | rewrite [a2] | rewrite [kk]); (try (conv => lhs; cbv)))); (try (with_reducible rfl)))) ?_
      refine headQ_of (by ((conv => lhs; cbv); (try (with_reducible rfl)))) ?_
      exact ⟨hqn, z, by rw [inc]; cases z <;> rfl⟩
    · obtain rfl : q = n := by omega
      have c2 := ltF hA (a := I q) (b := NN) (by rw [hI]; omega)
      refine wpV_of (by ((conv => lhs; cbv); (repeat ((first | rewrite [c2]); (try (conv => lhs; cbv)))); (try (with_reducible rfl)))) ?_
      show wpV _ _ _ _ _ _
      (refine wpV_of (by ((conv => lhs; cbv); (repeat ((first | rewrite [k13]); (try (conv => lhs; cbv)))); (try (with_reducible rfl)))) ?_; (show finV _ _ _ = some _; ((conv => lhs; cbv); (repeat ((first | rewrite [k13]); (try (conv => lhs; cbv)))); (try (with_reducible rfl))); (try rfl)))

def iSh : Sh := .int .i64
theorem ty_ints {xs : List IV} (h : TyI (.sl iSh 8) xs) : ∃ l : List Int, xs = [.sl false 1 (l.map e1)] ∧ l.length * 8 ≤ reachBytes ∧ ∀ y, y ∈ l → inR y := by
  obtain ⟨es, rfl, he, hes⟩ := h
  have : ∃ l : List Int, es = l.map e1 ∧ ∀ y, y ∈ l → inR y := by
    clear he
    induction es with
    | nil => exact ⟨[], rfl, by simp⟩
    | cons c r ih =>
      obtain ⟨n, hn, hw⟩ := hes c (by simp)
      obtain ⟨l, hl, hi⟩ := ih fun z hz => hes z (by simp [hz])
      refine ⟨n :: l, by rw [hl, hn]; rfl, ?_⟩
      intro y hy
      rcases List.mem_cons.1 hy with rfl | hy
      · simp [Lit.wf, IntKind.min, IntKind.max, IntKind.signed, IntKind.bits] at hw
        unfold inR
        omega
      · exact hi y hy
  obtain ⟨l, rfl, hi⟩ := this
  exact ⟨l, rfl, by simpa using he, hi⟩
theorem lawV : ∀ xss, TyA [iSh, .sl iSh 8] xss → ∃ n, play real (lookT tab) (fun _ => clonePr clones) n 4 (argsF [iSh, .sl iSh 8] xss) [] = some (.one (.iv (.bool true)), []) := by
  intro xss h
  rcases xss with _ | ⟨a, _ | ⟨b, _ | ⟨c, r⟩⟩⟩
  · exact h.elim
  · exact h.2.elim
  · obtain ⟨h1, h2, _⟩ := h
    obtain ⟨k, rfl, _⟩ := h1
    obtain ⟨l, rfl, hl, hi⟩ := ty_ints h2
    exact law4 k l hl hi
  · exact h.2.2.elim
end Go.Proofs.Ytlbmknejhmmjnaa
