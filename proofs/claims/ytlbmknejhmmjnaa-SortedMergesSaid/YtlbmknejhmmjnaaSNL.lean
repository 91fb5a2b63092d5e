/- Merge, gone through. -/
import Derived.Test.YtlbmknejhmmjnaaSNK
set_option linter.unusedSimpArgs false
set_option linter.unusedVariables false
set_option maxRecDepth 100000
set_option maxHeartbeats 2000000
set_option cbv.maxSteps 10000000
namespace Go.Proofs.Ytlbmknejhmmjnaa
open Go GoV

def lsE (m : Nat) (fs : Nat → Bool) (S : Nat → List Int) : List (List IV) := (List.range m).map fun i => [.sl (fs i) 1 ((S i).map e1)]
theorem fl_congr {m : Nat} {a b : Nat → List Int} (h : ∀ i, i < m → a i = b i) : fl m a = fl m b := by
  have : ∀ L : List Nat, (∀ i, i ∈ L → i < m) → L.flatMap a = L.flatMap b := fun L hL => by
    induction L with
    | nil => rfl
    | cons x t ih => rw [List.flatMap_cons, List.flatMap_cons, h x (hL x (by simp)), ih fun i hi => hL i (by simp [hi])]
  exact this _ fun i hi => List.mem_range.1 hi
theorem subE {A : Ar} (hA : A = real) {es : List (List IV)} {x : Int} {r : List Int} (he : es = (x :: r).map e1) : A .sub es (some 1) none = some (r.map e1) := by
  rw [hA, real_sub, he]
  have h1 : rBound 1 ((x :: r).map e1).length = some 1 := by simp [rBound]; omega
  simp only [rSub, rCut, Option.bind_some, h1]
  simp
  exact List.take_of_length_le (by simp)
abbrev hbo (n : Nat) (es O : List (List IV)) : List Blk := [.var false [.slo 2 0 n, .fnc 46 [(3, 0)]], .arr false false 1 O, .arr false false 3 es, bFn]
theorem q11 (F : Bool) (m : Nat) (fs : Nat → Bool) (S : Nat → List Int) (hm : m ≤ 100) (hin : ∀ i, i < m → ∀ y, y ∈ S i → inR y) (hs : ∀ i, i < m → (S i).Pairwise fun a b => ky a ≤ ky b) (ht : (fl m S).length ≤ 900) :
    Pn 3001 11 [.one (.iv (.fn 12)), .one (.iv (.sl F 1 (lsE m fs S)))] [] (.one (.slo 0 0 (srt (fl m S) 10).length)) [.arr false false 1 ((srt (fl m S) 10).map e1)] := by
  refine playN 3000 rfl rfl fun A call hA hcall => ?_
  have k45 : call 45 [.one (.fnc 46 [(0, 0)])] [bFn] = some (.one (.ptr 1 0), [bFn, .var false [.slo 2 0 0, .fnc 46 [(0, 0)]], .arr false false 3 []]) := by
    rw [hcall]
    have h : play real (lookT tab) (fun _ => clonePr clones) 5 45 [.one (.fnc 46 [(0, 0)])] [bFn] = some (.one (.ptr 1 0), [bFn, .var false [.slo 2 0 0, .fnc 46 [(0, 0)]], .arr false false 3 []]) := by kernel_rfl
    exact play_mono pr_mono (by omega) _ _ _ _ h
  obtain ⟨ar, har⟩ : ∃ ar : List Hd → List (List IV) → List (List IV), ∀ c zs, ar c zs = c.map eH ++ zs := ⟨_, fun _ _ => rfl⟩
  obtain ⟨mp, hmp⟩ : ∃ mp : List Int → List (List IV), ∀ c, mp c = c.map e1 := ⟨_, fun _ => rfl⟩
  have k47 : ∀ (c : List Hd) zs (x : Hd), Heap ltH c → c.length ≤ 200 → (∀ y, y ∈ c → inH y) → inH x → ∃ c' zs' g, Heap ltH c' ∧ c'.Perm (x :: c) ∧ call 47 [.one (.ptr 0 0), hF x] (hbh c.length false (ar c zs)) = some ((.tup [] : FV), hbh (c.length + 1) g (ar c' zs')) := fun c zs x h1 h2 h3 h4 => by
    obtain ⟨r, ⟨c', zs', g, q1, q2, rfl⟩, q3⟩ := q47 c zs x h1 (by omega) h3 h4
    exact ⟨c', zs', g, q1, q2, by rw [hcall, har, har]; exact q3 3000 (by omega)⟩
  have k48 : ∀ (c : List Hd) zs, Heap ltH c → (h0 : 0 < c.length) → c.length ≤ 200 → (∀ y, y ∈ c → inH y) → ∃ c' zs', Heap ltH c' ∧ (c[0] :: c').Perm c ∧ call 48 [.one (.ptr 0 0)] (hbh c.length false (ar c zs)) = some ((.tup [(true, hL c[0]), (false, [.iv (.bool true)])] : FV), hbh (c.length - 1) false (ar c' zs')) := fun c zs h1 h0 h2 h3 => by
    obtain ⟨r, ⟨c', zs', q1, q2, rfl⟩, q3⟩ := q48 c zs h1 h0 (by omega) h3
    exact ⟨c', zs', q1, q2, by rw [hcall, har, har]; exact q3 3000 (by omega)⟩
  have k48e : ∀ es, call 48 [.one (.ptr 0 0)] (hbh 0 false es) = some ((.tup [(true, [.iv (.int .i64 0), .iv (.int .i64 0), .iv (.sl true 0 [])]), (false, [.iv (.bool false)])] : FV), hbh 0 false es) := fun es => by rw [hcall]; exact q48e es 3000 (by omega)
  obtain ⟨ls, hls⟩ : ∃ ls, ls = lsE m fs S := ⟨_, rfl⟩
  obtain ⟨M, hM⟩ : ∃ v : Int, v = m := ⟨_, rfl⟩
  have l1 : A .len ls = M := by rw [hA, hls, hM, real_len]; simp [lsE]
  obtain ⟨I, hI⟩ : ∃ I : Nat → Int, ∀ i, I i = i := ⟨_, fun _ => rfl⟩
  have i0 : I 0 = 0 := hI 0
  have gl : ∀ j, j < m → A .get ls (I j) = some [.sl (fs j) 1 (mp (S j))] := fun j hj => by
    rw [hA, hI, hls, real_get, hmp]; simp [lsE, hj]
  obtain ⟨T, hT⟩ : ∃ T, T = fl m S := ⟨_, rfl⟩
  rw [← hT] at ht
  rw [← hls, ← hT, ← hmp]
  have hhead : ∀ (c : List Hd) (rem : Nat → List Int), Hds m fs c rem → (∀ i, i < m → ∀ y, y ∈ rem i → inR y) → ∀ y, y ∈ c → inH y := fun c rem h1 h2 y hy => by
    obtain ⟨i, x, r, hi, rfl, hr⟩ := h1.of y hy
    exact h2 i hi x (by rw [hr]; simp)
  apply wpV_seq; refine wpV_of (by ((conv => lhs; cbv); (try (with_reducible rfl)))) ?_
  apply wpV_seq; refine wpV_of (by ((conv => lhs; cbv); (try (with_reducible rfl)))) ?_
  apply wpV_seq; refine wpV_of (by ((conv => lhs; cbv); (repeat ((first | rewrite [k45]); (try (conv => lhs; cbv)))); (try (with_reducible rfl)))) ?_
  apply wpV_seq; apply wpV_seq; refine wpV_of (by ((conv => lhs; cbv); (repeat ((first | rewrite [l1]); (try (conv => lhs; cbv)))); (try (with_reducible rfl)))) ?_
  apply wpV_block
  refine wpV_loop m (fun j st => ∃ (c : List Hd) (zs : List (List IV)), (Heap ltH c ∧ c.length ≤ j ∧ Hds m fs c (fun i => if i < j then S i else [])) ∧ st = ⟨0, (u :: u :: u :: u :: u :: .one (.ptr 0 0) :: u :: u :: u :: u :: u :: u :: u :: u :: u :: .one (.iv (.sl F 1 ls)) :: i64 M :: i64 (I j) :: u :: u :: u :: u :: u :: u :: u :: u :: u :: u :: u :: u :: u :: u :: u :: u :: u :: u :: u :: u :: u :: u :: u :: u :: u :: u :: u :: u :: u :: u :: u :: u :: u :: u :: u :: u :: u :: u :: u :: u :: u :: u :: u :: u :: u :: u :: []), hbh c.length false (ar c zs)⟩) (by omega) (by ((conv => lhs; cbv); (repeat ((first | rewrite [l1]); (try (conv => lhs; cbv)))); (try (with_reducible rfl))))
    ⟨[], [], ⟨fun k h => by simp at h, by simp, ⟨fun h hh => by simp at hh, fun i _ h => by simp at h, by simp⟩⟩, by rw [i0, har, l1]; rfl⟩ ?_
  rintro j hj st ⟨c, zs, ⟨hc, hcl, hh⟩, rfl⟩
  have hrin : ∀ i, i < m → ∀ y, y ∈ (fun i => if i < j then S i else []) i → inR y := fun i hi y hy => by
    dsimp only at hy
    split at hy
    · exact hin i hi y hy
    · simp at hy
  by_cases hjm : j < m
  · have c1 := ltT hA (a := I j) (b := M) (by rw [hI]; omega)
    have g1 := gl j hjm
    have inc := addR hA (a := I j) (b := 1) (c := I (j + 1)) (by rw [hI, hI]; omega) (by rw [hI]; omega)
    obtain ⟨Lj, hLj⟩ : ∃ v : Int, v = (S j).length := ⟨_, rfl⟩
    have l2 : A .len (mp (S j)) = Lj := by rw [hmp]; exact lenE hA rfl hLj
    cases hSj : S j with
    | nil =>
      have e1' := gtF hA (a := Lj) (b := 0) (by rw [hLj, hSj]; simp)
      have hfun : (fun i => if i < j + 1 then S i else []) = (fun i => if i < j then S i else []) := by
        funext i
        by_cases e : i = j
        · subst e; rw [if_pos (by omega), if_neg (by omega), hSj]
        · by_cases h1 : i < j
          · rw [if_pos (by omega), if_pos h1]
          · rw [if_neg (by omega), if_neg h1]
      generalize mp (S j) = sj at *
      generalize hE : ar c zs = E at *
      generalize hcn : c.length = cn at *
      generalize fs j = fj at *
      refine wpV_of (by ((conv => lhs; cbv); (repeat ((first | rewrite [c1] | rewrite [g1] | rewrite [l2] | rewrite [e1']); (try (conv => lhs; cbv)))); (try (with_reducible rfl)))) ?_
      refine headQ_of (by ((conv => lhs; cbv); (try (with_reducible rfl)))) ?_
      exact ⟨hjm, c, zs, ⟨hc, by omega, by rw [hfun]; exact hh⟩, by rw [inc, hE, hcn]⟩
    | cons x r =>
      have e1' := gtT hA (a := Lj) (b := 0) (by rw [hLj, hSj]; simp)
      have g2 : A .get (mp (S j)) 0 = some [.int .i64 x] := by rw [hA, hmp, hSj, real_get]; rfl
      have sb : A .sub (mp (S j)) (some 1) none = some (mp r) := by rw [hmp, hmp]; exact subE hA (by rw [hSj])
      have hx : inR x := hin j hjm x (by rw [hSj]; simp)
      obtain ⟨c', zs', g, h1, p, kk⟩ := k47 c zs ⟨x, (j : Int), fs j, r.map e1⟩ hc (by omega) (hhead c _ hh hrin) hx
      have hcl' : c'.length = c.length + 1 := by have := p.length_eq; simpa using this
      have hds := hh.push hjm (by simp) x r p
      have hfun : put (fun i => if i < j then S i else []) j (x :: r) = (fun i => if i < j + 1 then S i else []) := by
        funext i
        by_cases e : i = j
        · subst e; rw [put_self, if_pos (by omega), hSj]
        · rw [put_other _ _ e]
          by_cases h1 : i < j
          · simp only [h1, if_true, show i < j + 1 by omega]
          · simp only [h1, if_false, show ¬ i < j + 1 by omega]
      rw [hfun] at hds
      dsimp only [hF] at kk
      rw [← hI j, ← hmp, ← hcl'] at kk
      generalize mp (S j) = sj at *
      generalize mp r = rj at *
      generalize hE : ar c zs = E at *
      generalize hE' : ar c' zs' = E' at *
      generalize hcn : c.length = cn at *
      generalize hcn' : c'.length = cn' at *
      generalize fs j = fj at *
      cases g with
      | false =>
        refine wpV_of (by ((conv => lhs; cbv); (repeat ((first | rewrite [c1] | rewrite [g1] | rewrite [l2] | rewrite [e1'] | rewrite [g2] | rewrite [sb] | rewrite [kk]); (try (conv => lhs; cbv)))); (try (with_reducible rfl)))) ?_
        refine headQ_of (by ((conv => lhs; cbv); (try (with_reducible rfl)))) ?_
        exact ⟨hjm, c', zs', ⟨h1, by omega, hds⟩, by rw [inc, hE', hcn']⟩
      | true =>
        refine wpV_of (by ((conv => lhs; cbv); (repeat ((first | rewrite [c1] | rewrite [g1] | rewrite [l2] | rewrite [e1'] | rewrite [g2] | rewrite [sb] | rewrite [kk]); (try (conv => lhs; cbv)))); (try (with_reducible rfl)))) ?_
        refine headQ_of (by ((conv => lhs; cbv); (try (with_reducible rfl)))) ?_
        exact ⟨hjm, c', zs', ⟨h1, by omega, hds⟩, by rw [inc, hE', hcn']⟩
  · obtain rfl : j = m := by omega
    have c1 := ltF hA (a := I j) (b := M) (by rw [hI]; omega)
    obtain ⟨rem, hrem⟩ : ∃ rem : Nat → List Int, rem = fun i => if i < j then S i else [] := ⟨_, rfl⟩
    rw [← hrem] at hh hrin
    have hfl0 : fl j rem = T := by rw [hT]; exact fl_congr fun i hi => by rw [hrem]; simp [hi]
    have hM0 : Mrg j fs T [] c rem := ⟨hh, fun i hi => by rw [hrem]; simp only [hi, if_true]; exact hs i hi, List.Pairwise.nil, fun a ha => by simp at ha, fun k => by rw [hfl0]; simp [fk]⟩
    have start : ∀ st0, headV false [5, 8] st0 = some ⟨0, (u :: u :: u :: u :: u :: .one (.ptr 0 0) :: u :: u :: .one (.slo 1 0 0) :: u :: u :: u :: u :: u :: u :: u :: u :: u :: u :: u :: u :: u :: u :: u :: u :: u :: u :: u :: u :: u :: u :: u :: u :: u :: u :: u :: u :: u :: u :: u :: u :: u :: u :: u :: u :: u :: u :: u :: u :: u :: u :: u :: u :: u :: u :: u :: u :: u :: u :: u :: u :: u :: u :: u :: []), hbo c.length (ar c zs) []⟩ → wpV A call (iterN 3000) (.block 2 (.loop false [5, 8] l11_1)) st0 (finQ A v11 (.one (.slo 0 0 (srt T 10).length), [.arr false false 1 (mp (srt T 10))])) := by
      intro st0 hst0
      apply wpV_block
      refine wpV_loop T.length (fun q st => ∃ (c : List Hd) (zs : List (List IV)) (out : List Int) (rem : Nat → List Int), (Heap ltH c ∧ c.length ≤ j ∧ Mrg j fs T out c rem ∧ (∀ i, i < j → ∀ y, y ∈ rem i → inR y) ∧ out.length = q ∧ (fl j rem).length + q = T.length) ∧
        st = ⟨0, (u :: u :: u :: u :: u :: .one (.ptr 0 0) :: u :: u :: .one (.slo 1 0 q) :: u :: u :: u :: u :: u :: u :: u :: u :: u :: u :: u :: u :: u :: u :: u :: u :: u :: u :: u :: u :: u :: u :: u :: u :: u :: u :: u :: u :: u :: u :: u :: u :: u :: u :: u :: u :: u :: u :: u :: u :: u :: u :: u :: u :: u :: u :: u :: u :: u :: u :: u :: u :: u :: u :: u :: []), hbo c.length (ar c zs) (mp out)⟩) (by omega) hst0 ⟨c, zs, [], rem, ⟨hc, hcl, hM0, hrin, rfl, by rw [hfl0]; rfl⟩, by rw [hmp]; rfl⟩ ?_
      clear hst0 hM0 hfl0 hrin hh hrem hc hcl
      rintro q hq st ⟨c, zs, out, rem, ⟨hc, hcl, hM, hri, hol, hflq⟩, rfl⟩
      by_cases hc0 : c = []
      · subst hc0
        have hout := hM.fin
        have ke := k48e (ar [] zs)
        rw [← hout, hol]
        generalize ar [] zs = E at *
        generalize mp out = O at *
        (refine wpV_of (by ((conv => lhs; cbv); (repeat ((first | rewrite [ke]); (try (conv => lhs; cbv)))); (try (with_reducible rfl)))) ?_; (show finV _ _ _ = some _; ((conv => lhs; cbv); (repeat ((first | rewrite [ke]); (try (conv => lhs; cbv)))); (try (with_reducible rfl))); (try rfl)))
      · have h0 : 0 < c.length := by
          cases c with
          | nil => exact absurd rfl hc0
          | cons _ _ => simp
        obtain ⟨c', zs', h1, p, kk⟩ := k48 c zs hc h0 (by omega) (hhead c rem hM.hds hri)
        obtain ⟨i, x, r, hi, hy, hr, hh, hstep⟩ := hM.step hc h0 p
        have hcl' : c.length - 1 = c'.length := by have := p.length_eq; simp only [List.length_cons] at this; omega
        have hlen := fl_len_step hi hr
        have hlt : q < T.length := by omega
        have hx : inR x := hri i hi x (by rw [hr]; simp)
        have hri' : ∀ i', i' < j → ∀ y, y ∈ put rem i r i' → inR y := fun i' hi' y hy' => by
          by_cases e : i' = i
          · subst e; rw [put_self] at hy'; exact hri i' hi' y (by rw [hr]; exact List.mem_cons_of_mem _ hy')
          · rw [put_other _ _ e] at hy'; exact hri i' hi' y hy'
        rw [hy, hcl'] at kk
        dsimp only [hL] at kk
        obtain ⟨II, hII⟩ : ∃ v : Int, v = i := ⟨_, rfl⟩
        rw [← hII, ← hmp] at kk
        obtain ⟨a1, a2⟩ := apo_e1 hA (l := out) (v := x) (j := q) hol.symm (by omega)
        rw [← hmp, ← hmp] at a1
        rw [← hmp] at a2
        obtain ⟨Lr, hLr⟩ : ∃ v : Int, v = r.length := ⟨_, rfl⟩
        have l2 : A .len (mp r) = Lr := by rw [hmp]; exact lenE hA rfl hLr
        dsimp only [e1] at a1
        have hol' : (out ++ [x]).length = q + 1 := by simp [hol]
        cases r with
        | nil =>
          have gt := gtF hA (a := Lr) (b := 0) (by rw [hLr]; simp)
          have hM' := hstep c' hh
          clear hy p h0
          generalize hE : ar c zs = E at *
          generalize hE' : ar c' zs' = E' at *
          generalize hcn : c.length = cn at *
          generalize hcn' : c'.length = cn' at *
          generalize hO : mp (out ++ [x]) = O' at *
          generalize mp out = O at *
          generalize mp [] = rj at *
          generalize fs i = fi at *
          refine wpV_of (by ((conv => lhs; cbv); (repeat ((first | rewrite [kk] | rewrite [a1] | rewrite [a2] | rewrite [l2] | rewrite [gt]); (try (conv => lhs; cbv)))); (try (with_reducible rfl)))) ?_
          refine headQ_of (by ((conv => lhs; cbv); (try (with_reducible rfl)))) ?_
          exact ⟨hlt, c', zs', out ++ [x], put rem i [], ⟨h1, by omega, hM', hri', hol', by omega⟩, by rw [hE', hcn', hO]⟩
        | cons x2 r2 =>
          have gt := gtT hA (a := Lr) (b := 0) (by rw [hLr]; simp)
          have g2 : A .get (mp (x2 :: r2)) 0 = some [.int .i64 x2] := by rw [hA, hmp, real_get]; rfl
          have sb : A .sub (mp (x2 :: r2)) (some 1) none = some (mp r2) := by rw [hmp, hmp]; exact subE hA rfl
          have hx2 : inR x2 := hri i hi x2 (by rw [hr]; simp)
          have hri0 : ∀ i', i' < j → ∀ y, y ∈ put rem i [] i' → inR y := fun i' hi' y hy' => by
            by_cases e : i' = i
            · subst e; rw [put_self] at hy'; simp at hy'
            · rw [put_other _ _ e] at hy'; exact hri i' hi' y hy'
          obtain ⟨c2, zs2, g, h3, p2, k2⟩ := k47 c' zs' ⟨x2, (i : Int), fs i, r2.map e1⟩ h1 (by omega) (hhead c' _ hh hri0) hx2
          have hcl2 : c2.length = c'.length + 1 := by have := p2.length_eq; simpa using this
          have hds := hh.push hi (put_self _ _ _) x2 r2 p2
          rw [put_put] at hds
          have hM' := hstep c2 hds
          clear hy p h0
          dsimp only [hF] at k2
          rw [← hII, ← hmp, ← hcl2] at k2
          generalize hE : ar c zs = E at *
          generalize hE' : ar c' zs' = E' at *
          generalize hE2 : ar c2 zs2 = E2 at *
          generalize hcn : c.length = cn at *
          generalize hcn' : c'.length = cn' at *
          generalize hcn2 : c2.length = cn2 at *
          generalize hO : mp (out ++ [x]) = O' at *
          generalize mp out = O at *
          generalize mp (x2 :: r2) = rj at *
          generalize mp r2 = rj2 at *
          generalize fs i = fi at *
          cases g with
          | false =>
            refine wpV_of (by ((conv => lhs; cbv); (repeat ((first | rewrite [kk] | rewrite [a1] | rewrite [a2] | rewrite [l2] | rewrite [gt] | rewrite [g2] | rewrite [sb] | rewrite [k2]); (try (conv => lhs; cbv)))); (try (with_reducible rfl)))) ?_
            refine headQ_of (by ((conv => lhs; cbv); (try (with_reducible rfl)))) ?_
            exact ⟨hlt, c2, zs2, out ++ [x], put rem i (x2 :: r2), ⟨h3, by omega, hM', hri', hol', by omega⟩, by rw [hE2, hcn2, hO]⟩
          | true =>
            refine wpV_of (by ((conv => lhs; cbv); (repeat ((first | rewrite [kk] | rewrite [a1] | rewrite [a2] | rewrite [l2] | rewrite [gt] | rewrite [g2] | rewrite [sb] | rewrite [k2]); (try (conv => lhs; cbv)))); (try (with_reducible rfl)))) ?_
            refine headQ_of (by ((conv => lhs; cbv); (try (with_reducible rfl)))) ?_
            exact ⟨hlt, c2, zs2, out ++ [x], put rem i (x2 :: r2), ⟨h3, by omega, hM', hri', hol', by omega⟩, by rw [hE2, hcn2, hO]⟩
    generalize ar c zs = E at *
    generalize c.length = cn at *
    generalize mp (srt T 10) = ST at *
    generalize (srt T 10).length = sn at *
    refine wpV_of (by ((conv => lhs; cbv); (repeat ((first | rewrite [c1]); (try (conv => lhs; cbv)))); (try (with_reducible rfl)))) ?_
    show wpV _ _ _ _ _ _
    apply wpV_seq; refine wpV_of (by ((conv => lhs; cbv); (try (with_reducible rfl)))) ?_
    exact start _ (by ((conv => lhs; cbv); (try (with_reducible rfl))))
end Go.Proofs.Ytlbmknejhmmjnaa
