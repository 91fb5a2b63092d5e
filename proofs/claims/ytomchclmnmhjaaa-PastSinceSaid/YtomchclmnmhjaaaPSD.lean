/- 'PastSince': the statement's own code; the statement of all data. -/
import Derived.Test.YtomchclmnmhjaaaPSC
set_option linter.unusedSimpArgs false
set_option linter.unusedVariables false
set_option maxRecDepth 100000
set_option maxHeartbeats 8000000
set_option cbv.maxSteps 10000000
namespace Go.Proofs.Ytomchclmnmhjaaa
open Go GoV

theorem p65nil : Pl 65 [.one (.iv (.sl true 0 [])), .one (.iv (.sl true 0 []))] (bl true) [] := ⟨20, by kernel_rfl⟩
abbrev pB (es : List (List IV)) (X : List IV) : Blk := .var false [.iv (.sl false 8 es), .iv (.arr 64 X)]
/-- What the first part of the statement finds: what one lacks, by both; or nothing. -/
def Since14 (A : Ar) (call : CallT) (es : List (List IV)) (X V : List IV) (num : Int) : Prop :=
  (call 63 [pastF false es X, .agg [.iv (.arr 64 V)], i64 num] [] = some (noneF, []) ∧ call 64 [pastF false es X, .agg [.iv (.arr 64 V)], i64 num] [] = some (noneF, []) ∧ call 65 [.one (.iv (.sl true 0 [])), .one (.iv (.sl true 0 []))] [] = some (bl true, []) ∧ A .bq false false = true) ∨
  ∃ n1 n2 o1 o2, call 63 [pastF false es X, .agg [.iv (.arr 64 V)], i64 num] [] = some (sinceF n1, [.arr false false 8 o1]) ∧ call 64 [pastF false es X, .agg [.iv (.arr 64 V)], i64 num] [] = some (sinceF n2, [.arr false false 8 o2]) ∧
    call 65 [.one (.iv (.sl (A .isE o1) 8 (A .seg o1 0 n1))), .one (.iv (.sl (A .isE o2) 8 (A .seg o2 0 n2)))] [] = some (bl true, []) ∧ A .bq true true = true
def Join14 (A : Ar) (call : CallT) (es fs : List (List IV)) (X Y Z : List IV) : Prop :=
  ∃ z n3 o3, call 66 [pastF false es X, pastF false fs Y] [] = some (.agg [.slo 0 0 n3, .iv (.arr 64 Z)], [.arr z false 8 o3]) ∧
    ((call 67 [pastF false es X, pastF false fs Y] [] = some (pastF false es Z, []) ∧ call 58 [pastF (A .isE o3) (A .seg o3 0 n3) Z, pastF false es Z] [] = some (bl true, [])) ∨
      ∃ z' n4 o4, call 67 [pastF false es X, pastF false fs Y] [] = some (.agg [.slo 0 0 n4, .iv (.arr 64 Z)], [.arr z' false 8 o4]) ∧ call 58 [pastF (A .isE o3) (A .seg o3 0 n3) Z, pastF (A .isE o4) (A .seg o4 0 n4) Z] [] = some (bl true, []))
theorem w14 (A : Ar) (call : CallT) (n m : Nat) (hn : m < n) (es fs : List (List IV)) (X Y Z V : List IV) (num : Int) (few : Bool) (ev : Nat → Ev) (ct ix : Nat → Int) (hi0 : ix 0 = 0) (hc0 : ct 0 = 0) (d : Int) (t t' : Bool)
    (k53 : call 53 [.one (.iv (.sl true 1 [[.sl false 8 es], [.sl false 8 fs]]))] [] = some (bl few, [])) (k54 : call 54 [] [] = some (bl true, []))
    (hs : few = true → Since14 A call es X V num) (hj : few = true → Join14 A call es fs X Y Z)
    (h1 : ∀ i, i < m → A .cmp .lss (ix i) (A .len es) = true) (h1' : A .cmp .lss (ix m) (A .len es) = false) (h2 : ∀ i, i < m → A .get es (ix i) = some (encEv (ev i))) (h3 : ∀ i, i < m → A .ar .add .i64 (ix i) 1 = ix (i + 1))
    (h4 : ∀ i, i < m → (A .cmp .eql (ev i).k 2 = true ∧ A .ar .add .i64 (ct i) 1 = ct (i + 1)) ∨ (A .cmp .eql (ev i).k 2 = false ∧ ct i = ct (i + 1)))
    (k57 : call 57 [pastF false es X] [] = some (i64 d, [])) (hd : A .cmp .eql d (ct m) = true)
    (k68 : call 68 [pastF false es X, pastF false fs Y] [] = some (bl t, [])) (k58 : call 58 [pastF false es X, pastF false fs Y] [] = some (bl t, [])) (ht : A .bq t t = true)
    (k69 : call 69 [.one (.iv (.sl false 8 es)), .one (.iv (.sl false 8 fs))] [] = some (bl t', [])) (k65 : call 65 [.one (.iv (.sl false 8 es)), .one (.iv (.sl false 8 fs))] [] = some (bl t', [])) (ht' : A .bq t' t' = true) :
    wpV A call (iterN n) v14.body ⟨0, padE 99 [pastF false es X, pastF false fs Y, .agg [.iv (.arr 64 V)], i64 num], []⟩ (finQ A v14 (bl true, [])) := by
  apply wpV_seq; refine wpV_of (by ((conv => lhs; cbv); (try (with_reducible rfl)))) ?_
  cases few with
  | false =>
    apply wpV_seq
    refine wpV_of (by ((conv => lhs; cbv); (repeat ((first | rewrite [k53] | rewrite [k54]); (try (conv => lhs; cbv)))); (try (with_reducible rfl)))) ?_
    (show finV _ _ _ = some _; ((conv => lhs; cbv); (try (with_reducible rfl))); (try rfl))
  | true =>
    apply wpV_seq
    refine wpV_of (by ((conv => lhs; cbv); (repeat ((first | rewrite [k53]); (try (conv => lhs; cbv)))); (try (with_reducible rfl)))) ?_
    have hj := hj rfl
    rcases hs rfl with ⟨a1, a2, a3, a4⟩ | ⟨n1, n2, o1, o2, a1, a2, a3, a4⟩
    · apply wpV_seq; refine wpV_of (by ((conv => lhs; cbv); (repeat ((first | rewrite [a1]); (try (conv => lhs; cbv)))); (try (with_reducible rfl)))) ?_
      apply wpV_seq; refine wpV_of (by ((conv => lhs; cbv); (repeat ((first | rewrite [a2]); (try (conv => lhs; cbv)))); (try (with_reducible rfl)))) ?_
      apply wpV_seq; refine wpV_of (by ((conv => lhs; cbv); (try (with_reducible rfl)))) ?_
      apply wpV_seq; apply wpV_seq; refine wpV_of (by ((conv => lhs; cbv); (try (with_reducible rfl)))) ?_
      apply wpV_block
      refine wpV_loop m (fun i s => s = ⟨0, [u, u, u, u, .one (.ptr 0 0), .one (.ptr 1 0), u, u, u, .one (.iv (.sl true 0 [])), bl false, .one (.iv (.sl true 0 [])), bl false, i64 (ct i), u, u, u, u, u, u, u, u, u, u, u, u, u, u, u, u, u, u, u, u, u, u, u, u, u, .one (.iv (.sl false 8 es)), i64 (A .len es), i64 (ix i), u, u, u, u, u, u, u, u, u, u, u, u, u, u, u, u, u, u, u, u, u, u, u, u, u, u, u, u, u, u, u, u, u, u, u, u, u, u, u, u, u, u, u, u, u, u, u, u, u, u, u, u, u, u, u, u, u], [pB es X, pB fs Y]⟩) hn (by ((conv => lhs; cbv); (try (with_reducible rfl)))) (by rw [hi0, hc0]) ?_
      rintro i hi s rfl
      by_cases him : i < m
      · rcases h4 i him with ⟨b1, b2⟩ | ⟨b1, b2⟩
        · refine wpV_of (by ((conv => lhs; cbv); (repeat ((first | rewrite [h1 i him] | rewrite [h2 i him] | rewrite [b1]); (try (conv => lhs; cbv)))); (try (with_reducible rfl)))) ?_
          refine headQ_of (by ((conv => lhs; cbv); (try (with_reducible rfl)))) ?_
          exact ⟨him, (by ((rw [h3 i him, b2]) <;> rfl))⟩
        · refine wpV_of (by ((conv => lhs; cbv); (repeat ((first | rewrite [h1 i him] | rewrite [h2 i him] | rewrite [b1]); (try (conv => lhs; cbv)))); (try (with_reducible rfl)))) ?_
          refine headQ_of (by ((conv => lhs; cbv); (try (with_reducible rfl)))) ?_
          exact ⟨him, (by ((rw [h3 i him, b2]) <;> rfl))⟩
      · obtain rfl : i = m := by omega
        refine wpV_of (by ((conv => lhs; cbv); (repeat ((first | rewrite [h1']); (try (conv => lhs; cbv)))); (try (with_reducible rfl)))) ?_
        show wpV _ _ _ _ _ _
        obtain ⟨z, n3, o3, j1, ⟨j2, j3⟩ | ⟨z', n4, o4, j2, j3⟩⟩ := hj
        · cases z <;> (refine wpV_of (by ((conv => lhs; cbv); (repeat ((first | rewrite [a3] | rewrite [a4] | rewrite [j1] | rewrite [j2] | rewrite [j3] | rewrite [k57] | rewrite [hd] | rewrite [k68] | rewrite [k58] | rewrite [ht] | rewrite [k69] | rewrite [k65] | rewrite [ht'] | rewrite [k54]); (try (conv => lhs; cbv)))); (try (with_reducible rfl)))) ?_; (show finV _ _ _ = some _; ((conv => lhs; cbv); (try (with_reducible rfl))); (try rfl)))
        · cases z <;> cases z' <;> (refine wpV_of (by ((conv => lhs; cbv); (repeat ((first | rewrite [a3] | rewrite [a4] | rewrite [j1] | rewrite [j2] | rewrite [j3] | rewrite [k57] | rewrite [hd] | rewrite [k68] | rewrite [k58] | rewrite [ht] | rewrite [k69] | rewrite [k65] | rewrite [ht'] | rewrite [k54]); (try (conv => lhs; cbv)))); (try (with_reducible rfl)))) ?_; (show finV _ _ _ = some _; ((conv => lhs; cbv); (try (with_reducible rfl))); (try rfl)))
    · apply wpV_seq; refine wpV_of (by ((conv => lhs; cbv); (repeat ((first | rewrite [a1]); (try (conv => lhs; cbv)))); (try (with_reducible rfl)))) ?_
      apply wpV_seq; refine wpV_of (by ((conv => lhs; cbv); (repeat ((first | rewrite [a2]); (try (conv => lhs; cbv)))); (try (with_reducible rfl)))) ?_
      apply wpV_seq; refine wpV_of (by ((conv => lhs; cbv); (try (with_reducible rfl)))) ?_
      apply wpV_seq; apply wpV_seq; refine wpV_of (by ((conv => lhs; cbv); (try (with_reducible rfl)))) ?_
      apply wpV_block
      refine wpV_loop m (fun i s => s = ⟨0, [u, u, u, u, .one (.ptr 0 0), .one (.ptr 1 0), u, u, u, .one (.slo 2 0 n1), bl true, .one (.slo 3 0 n2), bl true, i64 (ct i), u, u, u, u, u, u, u, u, u, u, u, u, u, u, u, u, u, u, u, u, u, u, u, u, u, .one (.iv (.sl false 8 es)), i64 (A .len es), i64 (ix i), u, u, u, u, u, u, u, u, u, u, u, u, u, u, u, u, u, u, u, u, u, u, u, u, u, u, u, u, u, u, u, u, u, u, u, u, u, u, u, u, u, u, u, u, u, u, u, u, u, u, u, u, u, u, u, u, u], [pB es X, pB fs Y, .arr false false 8 o1, .arr false false 8 o2]⟩) hn (by ((conv => lhs; cbv); (try (with_reducible rfl)))) (by rw [hi0, hc0]) ?_
      rintro i hi s rfl
      by_cases him : i < m
      · rcases h4 i him with ⟨b1, b2⟩ | ⟨b1, b2⟩
        · refine wpV_of (by ((conv => lhs; cbv); (repeat ((first | rewrite [h1 i him] | rewrite [h2 i him] | rewrite [b1]); (try (conv => lhs; cbv)))); (try (with_reducible rfl)))) ?_
          refine headQ_of (by ((conv => lhs; cbv); (try (with_reducible rfl)))) ?_
          exact ⟨him, (by ((rw [h3 i him, b2]) <;> rfl))⟩
        · refine wpV_of (by ((conv => lhs; cbv); (repeat ((first | rewrite [h1 i him] | rewrite [h2 i him] | rewrite [b1]); (try (conv => lhs; cbv)))); (try (with_reducible rfl)))) ?_
          refine headQ_of (by ((conv => lhs; cbv); (try (with_reducible rfl)))) ?_
          exact ⟨him, (by ((rw [h3 i him, b2]) <;> rfl))⟩
      · obtain rfl : i = m := by omega
        refine wpV_of (by ((conv => lhs; cbv); (repeat ((first | rewrite [h1']); (try (conv => lhs; cbv)))); (try (with_reducible rfl)))) ?_
        show wpV _ _ _ _ _ _
        obtain ⟨z, n3, o3, j1, ⟨j2, j3⟩ | ⟨z', n4, o4, j2, j3⟩⟩ := hj
        · cases z <;> (refine wpV_of (by ((conv => lhs; cbv); (repeat ((first | rewrite [a3] | rewrite [a4] | rewrite [j1] | rewrite [j2] | rewrite [j3] | rewrite [k57] | rewrite [hd] | rewrite [k68] | rewrite [k58] | rewrite [ht] | rewrite [k69] | rewrite [k65] | rewrite [ht'] | rewrite [k54]); (try (conv => lhs; cbv)))); (try (with_reducible rfl)))) ?_; (show finV _ _ _ = some _; ((conv => lhs; cbv); (try (with_reducible rfl))); (try rfl)))
        · cases z <;> cases z' <;> (refine wpV_of (by ((conv => lhs; cbv); (repeat ((first | rewrite [a3] | rewrite [a4] | rewrite [j1] | rewrite [j2] | rewrite [j3] | rewrite [k57] | rewrite [hd] | rewrite [k68] | rewrite [k58] | rewrite [ht] | rewrite [k69] | rewrite [k65] | rewrite [ht'] | rewrite [k54]); (try (conv => lhs; cbv)))); (try (with_reducible rfl)))) ?_; (show finV _ _ _ = some _; ((conv => lhs; cbv); (try (with_reducible rfl))); (try rfl)))

theorem adds_nz : ∀ (k l : List Ev), True := fun _ _ => trivial
theorem same65 (f1 f2 : Bool) {l k : List Ev} (hl : l.length ≤ 1000000000000000000) (hn : l.map nz = k.map nz) (ho : ∀ e, e ∈ l → EvOK e) (hp : ∀ e, e ∈ k → EvOK e) :
    Pl 65 [.one (.iv (.sl f1 8 (l.map encEv))), .one (.iv (.sl f2 8 (k.map encEv)))] (bl true) [] := by
  have hk : k.length = l.length := by have := congrArg List.length hn; simpa using this.symm
  obtain ⟨t, ht, h⟩ := p65 f1 f2 l k hl (by omega) ho hp
  rw [ht.2 hn] at h
  exact h
theorem same58 (f1 f2 : Bool) {l k : List Ev} (hl : l.length ≤ 1000000000000000000) (hn : l.map nz = k.map nz) (ho : ∀ e, e ∈ l → EvOK e) (hp : ∀ e, e ∈ k → EvOK e) {X : List Int} (hX : X.length = 64) :
    Pl 58 [pastF f1 (l.map encEv) (vec X), pastF f2 (k.map encEv) (vec X)] (bl true) [] := by
  have hk : k.length = l.length := by have := congrArg List.length hn; simpa using this.symm
  obtain ⟨t, ht, h⟩ := p58 f1 f2 l k hl (by omega) ho hp hX hX
  rw [ht.2 ⟨hn, rfl⟩] at h
  exact h
theorem ok_sF {V : List Int} {most : Int} : ∀ (l : List Ev) {s : List Ev}, (∀ e, e ∈ l → EvOK e) → (∀ e, e ∈ s → EvOK e) → ∀ e, e ∈ l.foldl (sF V most) s → EvOK e
  | [], s, _, hs => hs
  | e :: r, s, hl, hs => by
    rw [List.foldl_cons]
    refine ok_sF r (fun x hx => hl x (by simp [hx])) ?_
    unfold sF
    split
    · intro x hx
      simp only [List.mem_append, List.mem_singleton] at hx
      rcases hx with hx | rfl
      · exact hs x hx
      · exact hl x (by simp)
    · exact hs
theorem map_cl_nz (l : List Ev) : (l.map clE).map nz = l.map nz := by simp only [List.map_map]; rfl
theorem seg_map (l : List Ev) : real .seg (l.map encEv) 0 l.length = l.map encEv := by
  have := seg_all (l.map encEv); simpa using this
theorem seg_cl (l : List Ev) : real .seg ((l.map clE).map encEv) 0 l.length = (l.map clE).map encEv := by
  have := seg_all ((l.map clE).map encEv); simpa using this

theorem since14 {l : List Ev} (hl : l.length * 96 ≤ reachBytes) (ho : ∀ e, e ∈ l → EvOK e) {X V : List Int} (hX : X.length = 64) (hV : V.length = 64) (num : Int) :
    ∃ N, ∀ n, N ≤ n → Since14 real (play real (lookT tab) (fun _ => clonePr clones) n) (l.map encEv) (vec X) (vec V) num := by
  have hrb : reachBytes = 140737488351232 := rfl
  cases hw : withinB X V with
  | false =>
    obtain ⟨j1, h1⟩ := (p63n false l hX hV num hw).at pr_mono
    obtain ⟨j2, h2⟩ := (p64n false l hX hV num hw).at pr_mono
    obtain ⟨j3, h3⟩ := p65nil.at pr_mono
    exact ⟨j1 + j2 + j3, fun n hn => .inl ⟨h1 n (by omega), h2 n (by omega), h3 n (by omega), rfl⟩⟩
  | true =>
    obtain ⟨j1, h1⟩ := (p63 false l hl (fun e he => (ho e he).1) hX hV num hw).at pr_mono
    obtain ⟨j2, h2⟩ := (p64 false l hl hX hV num hw).at pr_mono
    have hsl := sF_len V num l []
    have hok := ok_sF (V := V) (most := num) l ho (s := []) (by simp)
    generalize l.foldl (sF V num) [] = s at *
    have hokc : ∀ e, e ∈ s.map clE → EvOK e := ok2_cl hok
    obtain ⟨j3, h3⟩ := (same65 (isE ((s.map clE).map encEv)) (isE (s.map encEv)) (l := s.map clE) (k := s) (by simp only [List.length_nil] at hsl; rw [List.length_map]; omega) (map_cl_nz s) hokc hok).at pr_mono
    refine ⟨j1 + j2 + j3, fun n hn => .inr ⟨_, _, _, _, h1 n (by omega), h2 n (by omega), ?_, rfl⟩⟩
    rw [seg_map, seg_cl]
    exact h3 n (by omega)
theorem join14 {l k : List Ev} (hl : l.length ≤ 80) (hk : k.length ≤ 80) (ho : ∀ e, e ∈ l → EvOK e) (hp : ∀ e, e ∈ k → EvOK e) {X Y : List Int} (hX : X.length = 64) (hY : Y.length = 64) :
    ∃ N, ∀ n, N ≤ n → Join14 real (play real (lookT tab) (fun _ => clonePr clones) n) (l.map encEv) (k.map encEv) (vec X) (vec Y) (vec (joinI X Y)) := by
  have hrm := room_val
  have hb : (l.length + k.length + 1) * 96 ≤ room := by rw [hrm]; omega
  obtain ⟨z, q1⟩ := p66 false false l k hb ho hp hX hY
  obtain ⟨r, hr, q2⟩ := p67 false false l k hb hX hY
  have hal := adds_len k l
  have hok := ok2_adds k ho hp
  have hokc : ∀ e, e ∈ (adds l k).map clE → EvOK e := ok2_cl hok
  obtain ⟨j1, h1⟩ := q1.at pr_mono
  obtain ⟨j2, h2⟩ := q2.at pr_mono
  have hZ : (joinI X Y).length = 64 := zip_len _ _ _
  rcases hr with ⟨rfl, rfl⟩ | ⟨z', rfl⟩
  · have ha : adds l [] = l := rfl
    rw [ha] at h1 hokc hok hal
    obtain ⟨j3, h3⟩ := (same58 (isE ((l.map clE).map encEv)) false (l := l.map clE) (k := l) (by rw [List.length_map]; omega) (map_cl_nz l) hokc hok hZ).at pr_mono
    refine ⟨j1 + j2 + j3, fun n hn => ⟨z, _, _, h1 n (by omega), .inl ⟨h2 n (by omega), ?_⟩⟩⟩
    rw [seg_cl]
    exact h3 n (by omega)
  · generalize adds l k = s at *
    obtain ⟨j3, h3⟩ := (same58 (isE ((s.map clE).map encEv)) (isE (s.map encEv)) (l := s.map clE) (k := s) (by rw [List.length_map]; omega) (map_cl_nz s) hokc hok hZ).at pr_mono
    refine ⟨j1 + j2 + j3, fun n hn => ⟨z, _, _, h1 n (by omega), .inr ⟨z', _, _, h2 n (by omega), ?_⟩⟩⟩
    rw [seg_map, seg_cl]
    exact h3 n (by omega)
theorem law14 {l k : List Ev} (hl : l.length * 96 ≤ reachBytes) (hk : k.length * 96 ≤ reachBytes) (ho : ∀ e, e ∈ l → EvOK e) (hp : ∀ e, e ∈ k → EvOK e) {X Y V : List Int} (hX : X.length = 64) (hY : Y.length = 64) (hV : V.length = 64) (num : Int) :
    Pl 14 [pastF false (l.map encEv) (vec X), pastF false (k.map encEv) (vec Y), vecF V, i64 num] (bl true) [] := by
  have hrb : reachBytes = 140737488351232 := rfl
  obtain ⟨few, hfew, q53⟩ := p53c false false l k (by omega) (by omega)
  obtain ⟨j1, h53⟩ := q53.at pr_mono
  obtain ⟨j2, h54⟩ := p54.at pr_mono
  obtain ⟨j3, hS⟩ := since14 hl ho hX hV num
  have hJ : ∃ N, ∀ n, N ≤ n → few = true → Join14 real (play real (lookT tab) (fun _ => clonePr clones) n) (l.map encEv) (k.map encEv) (vec X) (vec Y) (vec (joinI X Y)) := by
    cases few with
    | false => exact ⟨0, fun _ _ h => by simp at h⟩
    | true =>
      obtain ⟨N, hN⟩ := join14 (hfew rfl).1 (hfew rfl).2 ho hp hX hY
      exact ⟨N, fun n hn _ => hN n hn⟩
  obtain ⟨j4, hJ⟩ := hJ
  obtain ⟨j5, h57⟩ := (p57 false l (by omega) (vec X)).at pr_mono
  obtain ⟨t1, ht1, q68⟩ := p68 false false l k (by omega) (by omega) ho hp hX hY
  obtain ⟨t2, ht2, q58⟩ := p58 false false l k (by omega) (by omega) ho hp hX hY
  obtain rfl : t1 = t2 := by rw [Bool.eq_iff_iff, ht1, ht2]
  obtain ⟨t3, ht3, q69⟩ := p69 false false l k (by omega) (by omega) ho hp
  obtain ⟨t4, ht4, q65⟩ := p65 false false l k (by omega) (by omega) ho hp
  obtain rfl : t3 = t4 := by rw [Bool.eq_iff_iff, ht3, ht4]
  obtain ⟨j6, h68⟩ := q68.at pr_mono
  obtain ⟨j7, h58⟩ := q58.at pr_mono
  obtain ⟨j8, h69⟩ := q69.at pr_mono
  obtain ⟨j9, h65⟩ := q65.at pr_mono
  obtain ⟨N, hN⟩ : ∃ N, N = j1 + j2 + j3 + j4 + j5 + j6 + j7 + j8 + j9 + l.length + 1 := ⟨_, rfl⟩
  refine Plays.wp (vf := v14) rfl rfl ⟨N, fun A call hA hcall => ?_⟩
  subst hA
  subst hcall
  exact w14 real _ N l.length (by omega) (l.map encEv) (k.map encEv) (vec X) (vec Y) (vec (joinI X Y)) (vec V) num few (fun i => l.getD i d0) (fun i => (drops (l.take i) : Int)) (fun i => (i : Int)) rfl rfl (drops l) t1 t3
    (h53 N (by omega)) (h54 N (by omega)) (fun _ => hS N (by omega)) (hJ N (by omega))
    (fun i hi => by rw [lss_real, len_real]; simpa using hi) (by rw [lss_real, len_real]; simp) (fun i hi => by rw [get_ev hi, getD_ev hi]) (fun i hi => inc_real (by omega))
    (fun i hi => by
      have h1 := drops_take hi
      have h2 := drops_le (l.take i)
      simp only [List.length_take] at h2
      rw [eql_real, getD_ev hi]
      by_cases hk : l[i].k = 2
      · rw [if_pos hk] at h1
        exact .inl ⟨decide_eq_true hk, by rw [h1]; exact inc_real (by omega)⟩
      · rw [if_neg hk] at h1
        exact .inr ⟨decide_eq_false hk, by rw [h1]; simp⟩)
    (h57 N (by omega)) (by rw [eql_real, List.take_length]; simp) (h68 N (by omega)) (h58 N (by omega)) (by rw [real_bq]; simp) (h69 N (by omega)) (h65 N (by omega)) (by rw [real_bq]; simp)

theorem lawV : ∀ xss, TyA [pastSh, pastSh, vecSh, iSh] xss → ∃ n, play real (lookT tab) (fun _ => clonePr clones) n 14 (argsF [pastSh, pastSh, vecSh, iSh] xss) [] = some (.one (.iv (.bool true)), []) := by
  intro xss h
  rcases xss with _ | ⟨a, _ | ⟨b, _ | ⟨c, _ | ⟨d, _ | ⟨e, r⟩⟩⟩⟩⟩
  · exact h.elim
  · exact h.2.elim
  · exact h.2.2.elim
  · exact h.2.2.2.elim
  · obtain ⟨h1, h2, h3, h4, _⟩ := h
    obtain ⟨l, X, rfl, hX, hl, ho⟩ := ty_past h1
    obtain ⟨k, Y, rfl, hY, hk, hp⟩ := ty_past h2
    obtain ⟨V, rfl, hV⟩ := ty_vec h3
    obtain ⟨num, rfl⟩ := ty_int h4
    exact law14 hl hk ho hp hX hY hV num
  · exact h.2.2.2.2.elim
end Go.Proofs.Ytomchclmnmhjaaa
