/- Are two lists of events, and two pasts, the same? The document's answer, as an equation. -/
import Derived.Test.YtomchclmnmhjaaaPXH
import Derived.Lib.SlicesS
set_option linter.unusedSimpArgs false
set_option linter.unusedVariables false
set_option maxRecDepth 100000
set_option maxHeartbeats 2000000
namespace Go.Proofs.Ytomchclmnmhjaaa
open Go GoV

/-- An event, but for what its list of dots had room for. -/
def nz (e : Ev) : Ev := { e with b := true }
theorem nz_cl (e : Ev) : nz (clE e) = nz e := rfl
abbrev dotC (a b : Int) : List IV := [.int .i64 a, .int .i64 b]
def dR : List IV → Int
  | .int _ r :: _ => r
  | _ => 0
def dN : List IV → Int
  | _ :: .int _ n :: _ => n
  | _ => 0
def DotL (g : List (List IV)) : Prop := ∀ c, c ∈ g → c = dotC (dR c) (dN c)
def EvOK (e : Ev) : Prop := e.g.length * 16 ≤ reachBytes ∧ DotL e.g
theorem scmp_neq {a b : ByteArray} : real .scmp .neq a b = !(decide (a = b)) := by
  rw [real_scmp]
  show (!(a.toList == b.toList)) = _
  congr 1
  by_cases h : a = b
  · simp [h]
  · rw [decide_eq_false h]; exact (Go.Lib.bytes_beq_false_iff a b).2 h
theorem scmp_eql {a b : ByteArray} : real .scmp .eql a b = decide (a = b) := by
  rw [real_scmp]
  show (a.toList == b.toList) = _
  by_cases h : a = b
  · simp [h]
  · rw [decide_eq_false h]; exact (Go.Lib.bytes_beq_false_iff a b).2 h
theorem eqv2_dot {c d : List IV} (hc : c = dotC (dR c) (dN c)) (hd : d = dotC (dR d) (dN d)) : ∃ t : Bool, (t = true ↔ c = d) ∧ real .eqv [.int, .int] (dotC (dR c) (dN c)) (dotC (dR d) (dN d)) = some t := by
  refine ⟨_, ?_, eqv2_real _ _ _ _⟩
  rw [sameD, decide_eq_true_eq]
  constructor
  · rintro ⟨h1, h2⟩; rw [hc, hd, h1, h2]
  · rintro rfl; exact ⟨rfl, rfl⟩
theorem nz_ne {l k : List Ev} {i : Nat} (h1 : i < l.length) (h2 : i < k.length) (h : nz l[i] ≠ nz k[i]) : l.map nz ≠ k.map nz := by
  intro he
  apply h
  have : (l.map nz)[i]? = (k.map nz)[i]? := by rw [he]
  simpa [h1, h2] using this
theorem getD_eq {α : Type} {g : List α} {d : α} {j : Nat} (h : j < g.length) : g.getD j d = g[j] := by simp [h]
theorem gone_of {A : Ar} (hA : A = real) {ix : Nat → Int} (hix : ∀ i, ix i = (i : Int)) (g : List (List IV)) (hd : DotL g) (h : g.length ≤ 1000000000000000000) :
    ∃ a b : Nat → Int, Cnt A ix (A .len g) g.length ∧ ∀ j (hj : j < g.length), g[j] = dotC (a j) (b j) ∧ A .get g (ix j) = some (dotC (a j) (b j)) := by
  refine ⟨fun j => dR (g.getD j []), fun j => dN (g.getD j []), cnt_of hA hix g h, fun j hj => ?_⟩
  have e : g[j] = dotC (dR (g.getD j [])) (dN (g.getD j [])) := by rw [getD_eq hj]; exact hd _ (List.getElem_mem hj)
  refine ⟨e, ?_⟩
  rw [hA, hix, get_real g j (x := g[j]) (by simp [hj])]
  rw [← e]

theorem p65 (f1 f2 : Bool) (l k : List Ev) (hl : l.length ≤ 1000000000000000000) (hk : k.length ≤ 1000000000000000000) (ho : ∀ e, e ∈ l → EvOK e) (hp : ∀ e, e ∈ k → EvOK e) :
    ∃ t : Bool, (t = true ↔ l.map nz = k.map nz) ∧ Pl 65 [.one (.iv (.sl f1 8 (l.map encEv))), .one (.iv (.sl f2 8 (k.map encEv)))] (bl t) [] := by
  have hrb : reachBytes = 140737488351232 := rfl
  have : ∃ r, (∃ t : Bool, (t = true ↔ l.map nz = k.map nz) ∧ r = (bl t, ([] : List Blk))) ∧ Plays (lookT tab) (fun _ => clonePr clones) 65 [.one (.iv (.sl f1 8 (l.map encEv))), .one (.iv (.sl f2 8 (k.map encEv)))] [] r := by
    obtain ⟨N, hN⟩ : ∃ N, N = l.length + 140737488351232 + 1 := ⟨_, rfl⟩
    refine Plays.wpE (vf := v65) rfl rfl ⟨N, fun A call hA hcall => ?_⟩
    obtain ⟨ix, hix, hz⟩ := ix_some
    obtain ⟨es, hes, C, G⟩ := evs_of hA hix l hl
    obtain ⟨fs, hfs, D, H⟩ := evs_of hA hix k hk
    have hlen : A .cmp .neq (A .len es) (A .len fs) = !(decide (l.length = k.length)) := by
      rw [hA, neq_real, ← hes, ← hfs, len_real, len_real, List.length_map, List.length_map]
      by_cases h : l.length = k.length <;> simp [h]; omega
    rw [hes, hfs]
    apply wpV_seq; refine wpV_of (by ((conv => lhs; cbv); (try (with_reducible rfl)))) ?_
    by_cases hll : l.length = k.length
    · rw [decide_eq_true hll] at hlen
      simp only [Bool.not_true] at hlen
      apply wpV_seq; refine wpV_of (by ((conv => lhs; cbv); (repeat ((first | rewrite [hlen]); (try (conv => lhs; cbv)))); (try (with_reducible rfl)))) ?_
      apply wpV_seq; apply wpV_seq; refine wpV_of (by ((conv => lhs; cbv); (try (with_reducible rfl)))) ?_
      apply wpV_block
      refine wpV_loop l.length (fun i s => (l.take i).map nz = (k.take i).map nz ∧ s = ⟨0, [u, .one (.iv (.sl f2 8 fs)), u, u, u, u, u, u, u, u, u, u, u, u, u, .one (.iv (.sl f1 8 es)), i64 (A .len es), i64 (ix i), u, u, u, u, u, u, u, u, u, u, u, u, u, u, u, u, u, u, u, u, u, u, u, u, u, u, u, u, u, u, u, u, u, u, u, u, u, u, u, u, u, u, u, u, u, u, u, u, u, u, u, u, u, u, u, u, u, u, u, u, u, u, u, u, u, u, u, u, u, u, u, u, u, u], []⟩) (by omega) (by ((conv => lhs; cbv); (try (with_reducible rfl)))) ⟨by simp, by rw [hz]⟩ ?_
      rintro i hi s ⟨hq, rfl⟩
      by_cases him : i < l.length
      · have him' : i < k.length := by omega
        have g := G i him
        have h := H i him'
        have hne := nz_ne him him'
        have hox := ho _ (List.getElem_mem him)
        have hoy := hp _ (List.getElem_mem him')
        have htk : nz l[i] = nz k[i] → (l.take (i + 1)).map nz = (k.take (i + 1)).map nz := fun e => by
          rw [List.take_succ_eq_append_getElem him, List.take_succ_eq_append_getElem him', List.map_append, List.map_append, hq, List.map_cons, List.map_cons, e] <;> rfl
        generalize l[i] = x at *
        generalize k[i] = y at *
        have t1 : A .eqv [.int, .int] (dotC x.r x.n) (dotC y.r y.n) = some (sameD x.r x.n y.r y.n) := by rw [hA]; exact eqv2_real _ _ _ _
        have t2 : A .cmp .neq x.t y.t = decide (x.t ≠ y.t) := by rw [hA, neq_real]
        have t3 : A .cmp .neq x.k y.k = decide (x.k ≠ y.k) := by rw [hA, neq_real]
        have t4 : A .scmp .neq x.d y.d = !(decide (x.d = y.d)) := by rw [hA, scmp_neq]
        have t5 : A .cmp .neq x.f y.f = decide (x.f ≠ y.f) := by rw [hA, neq_real]
        have t6 : A .scmp .neq x.x y.x = !(decide (x.x = y.x)) := by rw [hA, scmp_neq]
        have t7 : A .cmp .neq (A .len x.g) (A .len y.g) = !(decide (x.g.length = y.g.length)) := by
          rw [hA, neq_real, len_real, len_real]
          by_cases h : x.g.length = y.g.length <;> simp [h]; omega
        obtain ⟨ga, gb, CX, GX⟩ := gone_of hA hix x.g hox.2 (by have := hox.1; omega)
        obtain ⟨ha, hb, CY, GY⟩ := gone_of hA hix y.g hoy.2 (by have := hoy.1; omega)
        have hxg := hox.1
        clear hox hoy
        obtain ⟨xr, xn, xt, xk, xd, xf, xx, xb, xg⟩ := x
        obtain ⟨yr, yn, yt, yk, yd, yf, yx, yb, yg⟩ := y
        simp only [nz, ne_eq, Ev.mk.injEq, and_true, true_and] at hne htk
        dsimp only [encEv, dotC] at g h t1 t2 t3 t4 t5 t6 t7 CX GX CY GY hxg
        apply wpV_seq; refine wpV_of (by ((conv => lhs; cbv); (try (with_reducible rfl)))) ?_
        apply wpV_seq; refine wpV_of (by ((conv => lhs; cbv); (repeat ((first | rewrite [C.lt i him]); (try (conv => lhs; cbv)))); (try (with_reducible rfl)))) ?_
        apply wpV_seq; apply wpV_block
        apply wpV_seq; refine wpV_of (by ((conv => lhs; cbv); (repeat ((first | rewrite [g]); (try (conv => lhs; cbv)))); (try (with_reducible rfl)))) ?_
        apply wpV_seq; refine wpV_of (by ((conv => lhs; cbv); (repeat ((first | rewrite [h]); (try (conv => lhs; cbv)))); (try (with_reducible rfl)))) ?_
        apply wpV_seq
        cases c1 : sameD xr xn yr yn with
        | false =>
          rw [c1] at t1
          refine wpV_of (by ((conv => lhs; cbv); (repeat ((first | rewrite [t1]); (try (conv => lhs; cbv)))); (try (with_reducible rfl)))) ?_
          refine ⟨_, ⟨false, ?_, rfl⟩, by (show finV _ _ _ = some _; ((conv => lhs; cbv); (try (with_reducible rfl))); (try rfl))⟩
          simp only [Bool.false_eq_true, false_iff]; exact hne fun h => by simp [sameD, h] at c1
        | true =>
        rw [c1] at t1
        by_cases c2 : xt = yt
        rotate_left
        · rw [decide_eq_true c2] at t2
          refine wpV_of (by ((conv => lhs; cbv); (repeat ((first | rewrite [t1] | rewrite [t2]); (try (conv => lhs; cbv)))); (try (with_reducible rfl)))) ?_
          refine ⟨_, ⟨false, ?_, rfl⟩, by (show finV _ _ _ = some _; ((conv => lhs; cbv); (try (with_reducible rfl))); (try rfl))⟩
          simp only [Bool.false_eq_true, false_iff]; exact hne fun h => c2 h.2.2.1
        rw [decide_eq_false (by simpa using c2)] at t2
        by_cases c3 : xk = yk
        rotate_left
        · rw [decide_eq_true c3] at t3
          refine wpV_of (by ((conv => lhs; cbv); (repeat ((first | rewrite [t1] | rewrite [t2] | rewrite [t3]); (try (conv => lhs; cbv)))); (try (with_reducible rfl)))) ?_
          refine ⟨_, ⟨false, ?_, rfl⟩, by (show finV _ _ _ = some _; ((conv => lhs; cbv); (try (with_reducible rfl))); (try rfl))⟩
          simp only [Bool.false_eq_true, false_iff]; exact hne fun h => c3 h.2.2.2.1
        rw [decide_eq_false (by simpa using c3)] at t3
        by_cases c4 : xd = yd
        rotate_left
        · rw [decide_eq_false c4] at t4
          simp only [Bool.not_false] at t4
          refine wpV_of (by ((conv => lhs; cbv); (repeat ((first | rewrite [t1] | rewrite [t2] | rewrite [t3] | rewrite [t4]); (try (conv => lhs; cbv)))); (try (with_reducible rfl)))) ?_
          refine ⟨_, ⟨false, ?_, rfl⟩, by (show finV _ _ _ = some _; ((conv => lhs; cbv); (try (with_reducible rfl))); (try rfl))⟩
          simp only [Bool.false_eq_true, false_iff]; exact hne fun h => c4 h.2.2.2.2.1
        rw [decide_eq_true c4] at t4
        by_cases c5 : xf = yf
        rotate_left
        · rw [decide_eq_true c5] at t5
          simp only [Bool.not_true] at t4
          refine wpV_of (by ((conv => lhs; cbv); (repeat ((first | rewrite [t1] | rewrite [t2] | rewrite [t3] | rewrite [t4] | rewrite [t5]); (try (conv => lhs; cbv)))); (try (with_reducible rfl)))) ?_
          refine ⟨_, ⟨false, ?_, rfl⟩, by (show finV _ _ _ = some _; ((conv => lhs; cbv); (try (with_reducible rfl))); (try rfl))⟩
          simp only [Bool.false_eq_true, false_iff]; exact hne fun h => c5 h.2.2.2.2.2.1
        rw [decide_eq_false (by simpa using c5)] at t5
        by_cases c6 : xx = yx
        rotate_left
        · rw [decide_eq_false c6] at t6
          simp only [Bool.not_false, Bool.not_true] at t6 t4
          refine wpV_of (by ((conv => lhs; cbv); (repeat ((first | rewrite [t1] | rewrite [t2] | rewrite [t3] | rewrite [t4] | rewrite [t5] | rewrite [t6]); (try (conv => lhs; cbv)))); (try (with_reducible rfl)))) ?_
          refine ⟨_, ⟨false, ?_, rfl⟩, by (show finV _ _ _ = some _; ((conv => lhs; cbv); (try (with_reducible rfl))); (try rfl))⟩
          simp only [Bool.false_eq_true, false_iff]; exact hne fun h => c6 h.2.2.2.2.2.2.1
        rw [decide_eq_true c6] at t6
        simp only [Bool.not_true] at t4 t6
        by_cases c7 : xg.length = yg.length
        rotate_left
        · rw [decide_eq_false c7] at t7
          simp only [Bool.not_false] at t7
          refine wpV_of (by ((conv => lhs; cbv); (repeat ((first | rewrite [t1] | rewrite [t2] | rewrite [t3] | rewrite [t4] | rewrite [t5] | rewrite [t6] | rewrite [t7]); (try (conv => lhs; cbv)))); (try (with_reducible rfl)))) ?_
          refine ⟨_, ⟨false, ?_, rfl⟩, by (show finV _ _ _ = some _; ((conv => lhs; cbv); (try (with_reducible rfl))); (try rfl))⟩
          simp only [Bool.false_eq_true, false_iff]; exact hne fun h => c7 (by rw [h.2.2.2.2.2.2.2])
        rw [decide_eq_true c7] at t7
        simp only [Bool.not_true] at t7
        have hd : xr = yr ∧ xn = yn := by simpa [sameD] using c1
        refine wpV_of (by ((conv => lhs; cbv); (repeat ((first | rewrite [t1] | rewrite [t2] | rewrite [t3] | rewrite [t4] | rewrite [t5] | rewrite [t6] | rewrite [t7]); (try (conv => lhs; cbv)))); (try (with_reducible rfl)))) ?_
        apply wpV_seq; refine wpV_of (by ((conv => lhs; cbv); (try (with_reducible rfl)))) ?_
        apply wpV_block
        refine wpV_loop xg.length (fun j s => xg.take j = yg.take j ∧ s = ⟨0, [u, .one (.iv (.sl f2 8 fs)), u, u, u, u, u, .one (.ptr 0 0), u, u, u, u, u, u, u, .one (.iv (.sl f1 8 es)), i64 (A .len es), i64 (ix i), u, u, u, u, u, u, u, u, u, u, u, u, u, u, u, u, u, u, u, u, u, u, u, u, u, u, u, u, u, u, u, u, u, u, u, u, u, u, u, u, u, u, u, u, u, u, u, u, u, u, u, u, u, u, u, u, u, u, .one (.iv (.sl xb 2 xg)), i64 (A .len xg), i64 (ix j), u, u, u, u, u, u, u, u, u, u, u, u, u],
          [.var false [.iv (.int .i64 yr), .iv (.int .i64 yn), .iv (.int .i64 yt), .iv (.int .i64 yk), .iv (.str yd), .iv (.int .i64 yf), .iv (.str yx), .iv (.sl yb 2 yg)]]⟩) (by omega) (by ((conv => lhs; cbv); (try (with_reducible rfl)))) ⟨by simp, by rw [hz]⟩ ?_
        rintro j hj s ⟨hqj, rfl⟩
        by_cases hjm : j < xg.length
        · have hjm' : j < yg.length := by omega
          obtain ⟨e1, e2⟩ := GX j hjm
          obtain ⟨e3, e4⟩ := GY j hjm'
          have u1 : A .eqv [.int, .int] (dotC (ha j) (hb j)) (dotC (ga j) (gb j)) = some (sameD (ha j) (hb j) (ga j) (gb j)) := by rw [hA]; exact eqv2_real _ _ _ _
          dsimp only [dotC] at u1
          cases c8 : sameD (ha j) (hb j) (ga j) (gb j) with
          | false =>
            rw [c8] at u1
            refine wpV_of (by ((conv => lhs; cbv); (repeat ((first | rewrite [CX.lt j hjm] | rewrite [e2] | rewrite [e4] | rewrite [u1]); (try (conv => lhs; cbv)))); (try (with_reducible rfl)))) ?_
            refine ⟨_, ⟨false, ?_, rfl⟩, by (show finV _ _ _ = some _; ((conv => lhs; cbv); (try (with_reducible rfl))); (try rfl))⟩
            simp only [Bool.false_eq_true, false_iff]
            refine hne fun h => ?_
            have hg := h.2.2.2.2.2.2.2
            have : xg[j] = yg[j] := by simp only [hg]
            rw [e1, e3] at this
            simp [sameD] at c8
            simp at this
            exact c8 this.1.symm this.2.symm
          | true =>
            rw [c8] at u1
            refine wpV_of (by ((conv => lhs; cbv); (repeat ((first | rewrite [CX.lt j hjm] | rewrite [e2] | rewrite [e4] | rewrite [u1]); (try (conv => lhs; cbv)))); (try (with_reducible rfl)))) ?_
            refine headQ_of (by ((conv => lhs; cbv); (try (with_reducible rfl)))) ?_
            refine ⟨hjm, ?_, (by ((rw [CX.inc j hjm]) <;> rfl))⟩
            have c8' : ha j = ga j ∧ hb j = gb j := by simpa [sameD] using c8
            rw [List.take_succ_eq_append_getElem hjm, List.take_succ_eq_append_getElem hjm', hqj, e1, e3, c8'.1, c8'.2]
        · obtain rfl : j = xg.length := by omega
          refine wpV_of (by ((conv => lhs; cbv); (repeat ((first | rewrite [CX.ge]); (try (conv => lhs; cbv)))); (try (with_reducible rfl)))) ?_
          show wpV _ _ _ _ _ _
          refine wpV_of (by ((conv => lhs; cbv); (try (with_reducible rfl)))) ?_
          refine headQ_of (by ((conv => lhs; cbv); (try (with_reducible rfl)))) ?_
          refine ⟨him, htk ⟨hd.1, hd.2, c2, c3, c4, c5, c6, ?_⟩, (by ((rw [C.inc i him]) <;> rfl))⟩
          rw [List.take_length, c7, List.take_length] at hqj
          exact hqj
      · obtain rfl : i = l.length := by omega
        refine wpV_of (by ((conv => lhs; cbv); (repeat ((first | rewrite [C.ge]); (try (conv => lhs; cbv)))); (try (with_reducible rfl)))) ?_
        show wpV _ _ _ _ _ _
        refine wpV_of (by ((conv => lhs; cbv); (try (with_reducible rfl)))) ?_
        refine ⟨_, ⟨true, ?_, rfl⟩, by (show finV _ _ _ = some _; ((conv => lhs; cbv); (try (with_reducible rfl))); (try rfl))⟩
        rw [List.take_length, hll, List.take_length] at hq
        simp only [true_iff]; exact hq
    · rw [decide_eq_false hll] at hlen
      simp only [Bool.not_false] at hlen
      refine wpV_of (by ((conv => lhs; cbv); (repeat ((first | rewrite [hlen]); (try (conv => lhs; cbv)))); (try (with_reducible rfl)))) ?_
      refine ⟨_, ⟨false, ?_, rfl⟩, by (show finV _ _ _ = some _; ((conv => lhs; cbv); (try (with_reducible rfl))); (try rfl))⟩
      simp only [Bool.false_eq_true, false_iff]
      intro h
      apply hll
      have := congrArg List.length h
      simpa using this
  obtain ⟨r, ⟨t, h1, rfl⟩, h2⟩ := this
  exact ⟨t, h1, h2⟩
theorem p58 (f1 f2 : Bool) (l k : List Ev) (hl : l.length ≤ 1000000000000000000) (hk : k.length ≤ 1000000000000000000) (ho : ∀ e, e ∈ l → EvOK e) (hp : ∀ e, e ∈ k → EvOK e) {X Y : List Int} (hX : X.length = 64) (hY : Y.length = 64) :
    ∃ t : Bool, (t = true ↔ l.map nz = k.map nz ∧ X = Y) ∧ Pl 58 [pastF f1 (l.map encEv) (vec X), pastF f2 (k.map encEv) (vec Y)] (bl t) [] := by
  obtain ⟨t, ht, n, hn⟩ := p65 f1 f2 l k hl hk ho hp
  refine ⟨decide (X = Y) && t, by simp [ht, and_comm], ?_⟩
  refine Plays.wp (vf := v58) rfl rfl ⟨n, fun A call hA hcall => ?_⟩
  rw [← hcall] at hn
  have h := eqv_vec hX hY
  rw [← hA] at h
  generalize vec X = xs at *
  generalize vec Y = ys at *
  generalize l.map encEv = es at *
  generalize k.map encEv = fs at *
  by_cases c : X = Y
  · rw [decide_eq_true c] at h ⊢
    refine wpV_of (by ((conv => lhs; cbv); (repeat ((first | rewrite [h] | rewrite [hn]); (try (conv => lhs; cbv)))); (try (with_reducible rfl)))) ?_
    (show finV _ _ _ = some _; ((conv => lhs; cbv); (try (with_reducible rfl))); (try rfl))
  · rw [decide_eq_false c] at h ⊢
    refine wpV_of (by ((conv => lhs; cbv); (repeat ((first | rewrite [h]); (try (conv => lhs; cbv)))); (try (with_reducible rfl)))) ?_
    (show finV _ _ _ = some _; ((conv => lhs; cbv); (try (with_reducible rfl))); (try rfl))
end Go.Proofs.Ytomchclmnmhjaaa
