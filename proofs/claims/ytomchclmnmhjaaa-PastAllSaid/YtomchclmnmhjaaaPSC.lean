/- The document's two pasts as one; are lists the same, by the program. -/
import Derived.Test.YtomchclmnmhjaaaPSB
set_option linter.unusedSimpArgs false
set_option linter.unusedVariables false
set_option maxRecDepth 100000
set_option maxHeartbeats 2000000
namespace Go.Proofs.Ytomchclmnmhjaaa
open Go GoV

/-- What the document's Join answers: with nothing put to it, the first list as it is. -/
def join67 (f1 : Bool) (l k : List Ev) (ws : List IV) (r : FV × List Blk) : Prop := (k = [] ∧ r = (pastF f1 (l.map encEv) ws, [])) ∨ (∃ z, r = (.agg [.slo 0 0 (adds l k).length, .iv (.arr 64 ws)], [.arr z false 8 ((adds l k).map encEv)]))
theorem p67 (f1 f2 : Bool) (l k : List Ev) (hl : (l.length + k.length + 1) * 96 ≤ room) {X Y : List Int} (hX : X.length = 64) (hY : Y.length = 64) :
    ∃ r, join67 f1 l k (vec (joinI X Y)) r ∧ Plays (lookT tab) (fun _ => clonePr clones) 67 [pastF f1 (l.map encEv) (vec X), pastF f2 (k.map encEv) (vec Y)] [] r := by
  have hbig : ∀ n, n ≤ l.length + k.length + 1 → n * 96 ≤ room := fun n hn => Nat.le_trans (Nat.mul_le_mul_right 96 hn) hl
  have hk18 : k.length ≤ 1000000000000000000 := by have hrm := room_val; omega
  clear hl
  obtain ⟨k0, h29⟩ := (p29 hX hY).at pr_mono
  obtain ⟨st, hst⟩ : ∃ st : Nat → List Ev, ∀ i, st i = adds l (k.take i) := ⟨_, fun _ => rfl⟩
  have hlen : ∀ i, (st i).length ≤ l.length + i := fun i => by
    have := adds_len (k.take i) l
    rw [hst]; simp only [List.length_take] at this; omega
  obtain ⟨out, hout⟩ : ∃ out : Nat → List (List IV), ∀ i, out i = (st i).map encEv := ⟨_, fun _ => rfl⟩
  obtain ⟨nn, hnn⟩ : ∃ nn : Nat → Nat, ∀ i, nn i = (st i).length := ⟨_, fun _ => rfl⟩
  have hs : ∀ i (hi : i < k.length), st (i + 1) = add (st i) k[i] := fun i hi => by
    rw [hst, hst, adds, adds, List.take_succ_eq_append_getElem hi, List.foldl_append]; rfl
  have key : ∀ (fl : Bool) i (hi : i < k.length), Pl 101 [.one (.iv (.sl fl 8 (out i))), evF (k.getD i d0)] (.one (.slo 0 0 (nn (i + 1)))) [.arr false false 8 (out (i + 1))] := fun fl i hi => by
    have hl2 := hlen i
    have hl3 : ((st i).length + 1) * 96 ≤ room := hbig _ (by omega)
    have h := p101 fl (st i) hl3 k[i]
    rw [← hs i hi, ← hout, ← hout, ← hnn] at h
    rw [getD_ev hi]
    exact h
  obtain ⟨k1, hk1⟩ := Plays.all pr_mono (T := lookT tab) (pr := fun _ => clonePr clones) (f := 101) (vs := fun i => [.one (.iv (.sl f1 8 (out i))), evF (k.getD i d0)]) (bs := fun _ => []) (r := fun i => (.one (.slo 0 0 (nn (i + 1))), [.arr false false 8 (out (i + 1))])) (m := k.length) (fun i hi => key f1 i hi)
  obtain ⟨k2, hk2⟩ := Plays.all pr_mono (T := lookT tab) (pr := fun _ => clonePr clones) (f := 101) (vs := fun i => [.one (.iv (.sl (isE (out i)) 8 (out i))), evF (k.getD i d0)]) (bs := fun _ => []) (r := fun i => (.one (.slo 0 0 (nn (i + 1))), [.arr false false 8 (out (i + 1))])) (m := k.length) (fun i hi => key _ i hi)
  obtain ⟨N, hN⟩ : ∃ N, N = k0 + k1 + k2 + k.length + 1 := ⟨_, rfl⟩
  refine Plays.wpE (vf := v67) rfl rfl ⟨N, fun A call hA hcall => ?_⟩
  have h29 := h29 N (by omega)
  have h101 := hk1 N (by omega)
  have h101' := hk2 N (by omega)
  rw [← hcall] at h29 h101 h101'
  obtain ⟨ix, hix, hz⟩ := ix_some
  obtain ⟨fs, hfs, C, G⟩ := evs_of hA hix k hk18
  have e0 : l.map encEv = out 0 := by rw [hout, hst]; rfl
  have hsg : ∀ i, A .seg (out i) 0 (nn i) = out i ∧ A .isE (out i) = isE (out i) := fun i => by
    rw [hA, hout, hnn]
    have := seg_all ((st i).map encEv)
    simp only [List.length_map] at this
    exact ⟨this, rfl⟩
  have hee : (adds l k).map encEv = out k.length := by rw [hout, hst, List.take_length]
  have hne : (adds l k).length = nn k.length := by rw [hnn, hst, List.take_length]
  unfold join67
  rw [hfs, hee, hne, e0]
  dsimp only [vecF] at h29 ⊢
  generalize vec (joinI X Y) = ws at *
  generalize vec X = xs at *
  generalize vec Y = ys at *
  apply wpV_seq; refine wpV_of (by ((conv => lhs; cbv); (try (with_reducible rfl)))) ?_
  apply wpV_seq; refine wpV_of (by ((conv => lhs; cbv); (repeat ((first | rewrite [h29]); (try (conv => lhs; cbv)))); (try (with_reducible rfl)))) ?_
  apply wpV_seq; apply wpV_seq; refine wpV_of (by ((conv => lhs; cbv); (try (with_reducible rfl)))) ?_
  apply wpV_block
  refine wpV_loop k.length (fun i s => (i = 0 ∧ s = ⟨0, [u, u, u, u, .one (.ptr 0 0), .one (.ptr 1 0), u, u, u, u, u, u, u, u, u, u, u, .one (.iv (.sl f2 8 fs)), i64 (A .len fs), i64 (ix i), u, u, u, u, u, u, u, u, u, u],
      [.var false [.iv (.sl true 0 []), .iv (.arr 64 (List.replicate 64 (.int .i64 0)))], .var false [.iv (.sl f1 8 (out i)), .iv (.arr 64 ws)]]⟩) ∨
    (∃ z, s = ⟨0, [u, u, u, u, .one (.ptr 0 0), .one (.ptr 1 0), u, u, u, u, u, u, u, u, u, u, u, .one (.iv (.sl f2 8 fs)), i64 (A .len fs), i64 (ix i), u, u, u, u, u, u, u, u, u, u],
      [.var false [.iv (.sl true 0 []), .iv (.arr 64 (List.replicate 64 (.int .i64 0)))], .var false [.slo 2 0 (nn i), .iv (.arr 64 ws)], .arr z false 8 (out i)]⟩)) (by omega) (by ((conv => lhs; cbv); (try (with_reducible rfl)))) (.inl ⟨rfl, by (rw [hz]) <;> rfl⟩) ?_
  rintro i hi s hs
  by_cases him : i < k.length
  · have g := G i him
    have h1 := h101 i him
    have h2 := h101' i him
    rw [getD_ev him] at h1 h2
    obtain ⟨a1, a2⟩ := hsg i
    rw [← a2] at h2
    generalize k[i] = x at *
    obtain ⟨er, en, et, ek, ed, ef, ex, eb, eg⟩ := x
    dsimp only [evF, encEv] at g h1 h2
    rcases hs with ⟨h0, rfl⟩ | ⟨z, rfl⟩
    · refine wpV_of (by ((conv => lhs; cbv); (repeat ((first | rewrite [C.lt i him] | rewrite [g] | rewrite [h1]); (try (conv => lhs; cbv)))); (try (with_reducible rfl)))) ?_
      refine headQ_of (by ((conv => lhs; cbv); (try (with_reducible rfl)))) ?_
      exact ⟨him, .inr ⟨false, (by ((rw [C.inc i him]) <;> rfl))⟩⟩
    · refine wpV_of (by ((conv => lhs; cbv); (repeat ((first | rewrite [C.lt i him] | rewrite [g] | rewrite [a1] | rewrite [h2]); (try (conv => lhs; cbv)))); (try (with_reducible rfl)))) ?_
      refine headQ_of (by ((conv => lhs; cbv); (try (with_reducible rfl)))) ?_
      exact ⟨him, .inr ⟨false, (by ((rw [C.inc i him]) <;> rfl))⟩⟩
  · obtain rfl : i = k.length := by omega
    rcases hs with ⟨h0, rfl⟩ | ⟨z, rfl⟩
    · have hk0 := List.eq_nil_of_length_eq_zero h0
      refine wpV_of (by ((conv => lhs; cbv); (repeat ((first | rewrite [C.ge]); (try (conv => lhs; cbv)))); (try (with_reducible rfl)))) ?_
      show wpV _ _ _ _ _ _
      refine wpV_of (by ((conv => lhs; cbv); (try (with_reducible rfl)))) ?_
      rw [h0]
      exact ⟨_, .inl ⟨hk0, rfl⟩, by (show finV _ _ _ = some _; ((conv => lhs; cbv); (try (with_reducible rfl))); (try rfl))⟩
    · refine wpV_of (by ((conv => lhs; cbv); (repeat ((first | rewrite [C.ge]); (try (conv => lhs; cbv)))); (try (with_reducible rfl)))) ?_
      show wpV _ _ _ _ _ _
      refine wpV_of (by ((conv => lhs; cbv); (try (with_reducible rfl)))) ?_
      cases z with
      | true => exact ⟨_, .inr ⟨true, rfl⟩, by (show finV _ _ _ = some _; ((conv => lhs; cbv); (try (with_reducible rfl))); (try rfl))⟩
      | false => exact ⟨_, .inr ⟨false, rfl⟩, by (show finV _ _ _ = some _; ((conv => lhs; cbv); (try (with_reducible rfl))); (try rfl))⟩

/-! ### Are lists of dots, events, lists of events, pasts the same? -/
theorem p88 (f1 f2 : Bool) (g h : List (List IV)) (hg : DotL g) (hh : DotL h) (hl : g.length ≤ 1000000000000000000) (hm : h.length ≤ 1000000000000000000) : ∃ t : Bool, (t = true ↔ g = h) ∧ Pl 88 [.one (.iv (.sl f1 2 g)), .one (.iv (.sl f2 2 h))] (bl t) [] := by
  have : ∃ r, (∃ t : Bool, (t = true ↔ g = h) ∧ r = (bl t, ([] : List Blk))) ∧ Plays (lookT tab) (fun _ => clonePr clones) 88 [.one (.iv (.sl f1 2 g)), .one (.iv (.sl f2 2 h))] [] r := by
    refine Plays.wpE (vf := v88) rfl rfl ⟨g.length + 1, fun A call hA hcall => ?_⟩
    obtain ⟨ix, hix, hz⟩ := ix_some
    obtain ⟨ga, gb, CX, GX⟩ := gone_of hA hix g hg hl
    obtain ⟨ha, hb, CY, GY⟩ := gone_of hA hix h hh hm
    have hlen : A .cmp .neq (A .len g) (A .len h) = !(decide (g.length = h.length)) := by
      rw [hA, neq_real, len_real, len_real]
      by_cases h : g.length = h.length <;> simp [h]; omega
    apply wpV_seq; refine wpV_of (by ((conv => lhs; cbv); (try (with_reducible rfl)))) ?_
    by_cases hll : g.length = h.length
    · rw [decide_eq_true hll] at hlen
      simp only [Bool.not_true] at hlen
      apply wpV_seq; refine wpV_of (by ((conv => lhs; cbv); (repeat ((first | rewrite [hlen]); (try (conv => lhs; cbv)))); (try (with_reducible rfl)))) ?_
      apply wpV_seq; apply wpV_seq; refine wpV_of (by ((conv => lhs; cbv); (try (with_reducible rfl)))) ?_
      apply wpV_block
      refine wpV_loop g.length (fun j s => g.take j = h.take j ∧ s = ⟨0, [.one (.iv (.sl f1 2 g)), .one (.iv (.sl f2 2 h)), u, u, u, u, u, u, u, u, u, u, i64 (A .len g), i64 (ix j), u, u, u, u, u, u, u, u, u, u, u, u], []⟩) (by omega) (by ((conv => lhs; cbv); (try (with_reducible rfl)))) ⟨by simp, by rw [hz]⟩ ?_
      rintro j hj s ⟨hqj, rfl⟩
      by_cases hjm : j < g.length
      · have hjm' : j < h.length := by omega
        obtain ⟨e1, e2⟩ := GX j hjm
        obtain ⟨e3, e4⟩ := GY j hjm'
        have u1 : A .eqv [.int, .int] (dotC (ga j) (gb j)) (dotC (ha j) (hb j)) = some (sameD (ga j) (gb j) (ha j) (hb j)) := by rw [hA]; exact eqv2_real _ _ _ _
        dsimp only [dotC] at u1
        cases c8 : sameD (ga j) (gb j) (ha j) (hb j) with
        | false =>
          rw [c8] at u1
          refine wpV_of (by ((conv => lhs; cbv); (repeat ((first | rewrite [CX.lt j hjm] | rewrite [e2] | rewrite [e4] | rewrite [u1]); (try (conv => lhs; cbv)))); (try (with_reducible rfl)))) ?_
          refine ⟨_, ⟨false, ?_, rfl⟩, by (show finV _ _ _ = some _; ((conv => lhs; cbv); (try (with_reducible rfl))); (try rfl))⟩
          simp only [Bool.false_eq_true, false_iff]
          intro hgh
          have : g[j] = h[j] := by simp only [hgh]
          rw [e1, e3] at this
          simp [sameD] at c8
          simp at this
          exact c8 this.1 this.2
        | true =>
          rw [c8] at u1
          refine wpV_of (by ((conv => lhs; cbv); (repeat ((first | rewrite [CX.lt j hjm] | rewrite [e2] | rewrite [e4] | rewrite [u1]); (try (conv => lhs; cbv)))); (try (with_reducible rfl)))) ?_
          refine headQ_of (by ((conv => lhs; cbv); (try (with_reducible rfl)))) ?_
          refine ⟨hjm, ?_, (by ((rw [CX.inc j hjm]) <;> rfl))⟩
          have c8' : ga j = ha j ∧ gb j = hb j := by simpa [sameD] using c8
          rw [List.take_succ_eq_append_getElem hjm, List.take_succ_eq_append_getElem hjm', hqj, e1, e3, c8'.1, c8'.2]
      · obtain rfl : j = g.length := by omega
        refine wpV_of (by ((conv => lhs; cbv); (repeat ((first | rewrite [CX.ge]); (try (conv => lhs; cbv)))); (try (with_reducible rfl)))) ?_
        show wpV _ _ _ _ _ _
        refine wpV_of (by ((conv => lhs; cbv); (try (with_reducible rfl)))) ?_
        refine ⟨_, ⟨true, ?_, rfl⟩, by (show finV _ _ _ = some _; ((conv => lhs; cbv); (try (with_reducible rfl))); (try rfl))⟩
        rw [List.take_length, hll, List.take_length] at hqj
        simp only [true_iff]; exact hqj
    · rw [decide_eq_false hll] at hlen
      simp only [Bool.not_false] at hlen
      refine wpV_of (by ((conv => lhs; cbv); (repeat ((first | rewrite [hlen]); (try (conv => lhs; cbv)))); (try (with_reducible rfl)))) ?_
      refine ⟨_, ⟨false, ?_, rfl⟩, by (show finV _ _ _ = some _; ((conv => lhs; cbv); (try (with_reducible rfl))); (try rfl))⟩
      simp only [Bool.false_eq_true, false_iff]
      intro h
      exact hll (by rw [h])
  obtain ⟨r, ⟨t, h1, rfl⟩, h2⟩ := this
  exact ⟨t, h1, h2⟩
theorem p104 (x y : Ev) (hx : EvOK x) (hy : EvOK y) : ∃ t : Bool, (t = true ↔ nz x = nz y) ∧ Pl 104 [evF x, evF y] (bl t) [] := by
  have hrb : reachBytes = 140737488351232 := rfl
  have hx1 := hx.1
  have hy1 := hy.1
  obtain ⟨t, ht, n, hn⟩ := p88 x.b y.b x.g y.g hx.2 hy.2 (by omega) (by omega)
  have : ∃ r, (∃ t : Bool, (t = true ↔ nz x = nz y) ∧ r = (bl t, ([] : List Blk))) ∧ Plays (lookT tab) (fun _ => clonePr clones) 104 [evF x, evF y] [] r := by
    refine Plays.wpE (vf := v104) rfl rfl ⟨n, fun A call hA hcall => ?_⟩
    rw [← hcall] at hn
    have t1 : A .eqv [.int, .int] (dotC x.r x.n) (dotC y.r y.n) = some (sameD x.r x.n y.r y.n) := by rw [hA]; exact eqv2_real _ _ _ _
    have t2 : A .cmp .eql x.t y.t = decide (x.t = y.t) := by rw [hA, eql_real]
    have t3 : A .cmp .eql x.k y.k = decide (x.k = y.k) := by rw [hA, eql_real]
    have t4 : A .scmp .eql x.d y.d = decide (x.d = y.d) := by rw [hA, scmp_eql]
    have t5 : A .cmp .eql x.f y.f = decide (x.f = y.f) := by rw [hA, eql_real]
    have t6 : A .scmp .eql x.x y.x = decide (x.x = y.x) := by rw [hA, scmp_eql]
    clear hx hy hx1 hy1 hrb
    obtain ⟨xr, xn, xt, xk, xd, xf, xx, xb, xg⟩ := x
    obtain ⟨yr, yn, yt, yk, yd, yf, yx, yb, yg⟩ := y
    dsimp only [dotC, evF] at t1 t2 t3 t4 t5 t6 ht hn ⊢
    simp only [nz, Ev.mk.injEq, true_and]
    cases c1 : sameD xr xn yr yn with
    | false =>
      rw [c1] at t1
      refine wpV_of (by ((conv => lhs; cbv); (repeat ((first | rewrite [t1]); (try (conv => lhs; cbv)))); (try (with_reducible rfl)))) ?_
      refine ⟨_, ⟨false, ?_, rfl⟩, by (show finV _ _ _ = some _; ((conv => lhs; cbv); (try (with_reducible rfl))); (try rfl))⟩
      simp only [Bool.false_eq_true, false_iff]; exact fun h => by simp [sameD, h] at c1
    | true =>
    rw [c1] at t1
    have hd : xr = yr ∧ xn = yn := by simpa [sameD] using c1
    by_cases c2 : xt = yt
    rotate_left
    · rw [decide_eq_false c2] at t2
      refine wpV_of (by ((conv => lhs; cbv); (repeat ((first | rewrite [t1] | rewrite [t2]); (try (conv => lhs; cbv)))); (try (with_reducible rfl)))) ?_
      refine ⟨_, ⟨false, ?_, rfl⟩, by (show finV _ _ _ = some _; ((conv => lhs; cbv); (try (with_reducible rfl))); (try rfl))⟩
      simp only [Bool.false_eq_true, false_iff]; exact fun h => c2 h.2.2.1
    rw [decide_eq_true c2] at t2
    by_cases c3 : xk = yk
    rotate_left
    · rw [decide_eq_false c3] at t3
      refine wpV_of (by ((conv => lhs; cbv); (repeat ((first | rewrite [t1] | rewrite [t2] | rewrite [t3]); (try (conv => lhs; cbv)))); (try (with_reducible rfl)))) ?_
      refine ⟨_, ⟨false, ?_, rfl⟩, by (show finV _ _ _ = some _; ((conv => lhs; cbv); (try (with_reducible rfl))); (try rfl))⟩
      simp only [Bool.false_eq_true, false_iff]; exact fun h => c3 h.2.2.2.1
    rw [decide_eq_true c3] at t3
    by_cases c4 : xd = yd
    rotate_left
    · rw [decide_eq_false c4] at t4
      refine wpV_of (by ((conv => lhs; cbv); (repeat ((first | rewrite [t1] | rewrite [t2] | rewrite [t3] | rewrite [t4]); (try (conv => lhs; cbv)))); (try (with_reducible rfl)))) ?_
      refine ⟨_, ⟨false, ?_, rfl⟩, by (show finV _ _ _ = some _; ((conv => lhs; cbv); (try (with_reducible rfl))); (try rfl))⟩
      simp only [Bool.false_eq_true, false_iff]; exact fun h => c4 h.2.2.2.2.1
    rw [decide_eq_true c4] at t4
    by_cases c5 : xf = yf
    rotate_left
    · rw [decide_eq_false c5] at t5
      refine wpV_of (by ((conv => lhs; cbv); (repeat ((first | rewrite [t1] | rewrite [t2] | rewrite [t3] | rewrite [t4] | rewrite [t5]); (try (conv => lhs; cbv)))); (try (with_reducible rfl)))) ?_
      refine ⟨_, ⟨false, ?_, rfl⟩, by (show finV _ _ _ = some _; ((conv => lhs; cbv); (try (with_reducible rfl))); (try rfl))⟩
      simp only [Bool.false_eq_true, false_iff]; exact fun h => c5 h.2.2.2.2.2.1
    rw [decide_eq_true c5] at t5
    by_cases c6 : xx = yx
    rotate_left
    · rw [decide_eq_false c6] at t6
      refine wpV_of (by ((conv => lhs; cbv); (repeat ((first | rewrite [t1] | rewrite [t2] | rewrite [t3] | rewrite [t4] | rewrite [t5] | rewrite [t6]); (try (conv => lhs; cbv)))); (try (with_reducible rfl)))) ?_
      refine ⟨_, ⟨false, ?_, rfl⟩, by (show finV _ _ _ = some _; ((conv => lhs; cbv); (try (with_reducible rfl))); (try rfl))⟩
      simp only [Bool.false_eq_true, false_iff]; exact fun h => c6 h.2.2.2.2.2.2.1
    rw [decide_eq_true c6] at t6
    refine wpV_of (by ((conv => lhs; cbv); (repeat ((first | rewrite [t1] | rewrite [t2] | rewrite [t3] | rewrite [t4] | rewrite [t5] | rewrite [t6] | rewrite [hn]); (try (conv => lhs; cbv)))); (try (with_reducible rfl)))) ?_
    refine ⟨_, ⟨t, ?_, rfl⟩, by (show finV _ _ _ = some _; ((conv => lhs; cbv); (try (with_reducible rfl))); (try rfl))⟩
    rw [ht]
    constructor
    · intro h
      exact ⟨hd.1, hd.2, c2, c3, c4, c5, c6, h⟩
    · intro h
      exact h.2.2.2.2.2.2.2
  obtain ⟨r, ⟨t, h1, rfl⟩, h2⟩ := this
  exact ⟨t, h1, h2⟩
theorem p103 (f1 f2 : Bool) (l k : List Ev) (hl : l.length ≤ 1000000000000000000) (hk : k.length ≤ 1000000000000000000) (ho : ∀ e, e ∈ l → EvOK e) (hp : ∀ e, e ∈ k → EvOK e) :
    ∃ t : Bool, (t = true ↔ l.map nz = k.map nz) ∧ Pl 103 [.one (.iv (.sl f1 8 (l.map encEv))), .one (.iv (.sl f2 8 (k.map encEv))), .one (.iv (.fn 104))] (bl t) [] := by
  have : ∃ r, (∃ t : Bool, (t = true ↔ l.map nz = k.map nz) ∧ r = (bl t, ([] : List Blk))) ∧ Plays (lookT tab) (fun _ => clonePr clones) 103 [.one (.iv (.sl f1 8 (l.map encEv))), .one (.iv (.sl f2 8 (k.map encEv))), .one (.iv (.fn 104))] [] r := by
    by_cases hll : l.length = k.length
    · have hch : ∀ i, ∃ t : Bool, i < l.length → (t = true ↔ nz (l.getD i d0) = nz (k.getD i d0)) ∧ Pl 104 [evF (l.getD i d0), evF (k.getD i d0)] (bl t) [] := fun i => by
        by_cases hi : i < l.length
        · have hi' : i < k.length := by omega
          obtain ⟨t, h1, h2⟩ := p104 (l.getD i d0) (k.getD i d0) (by rw [getD_ev hi]; exact ho _ (List.getElem_mem hi)) (by rw [getD_ev hi']; exact hp _ (List.getElem_mem hi'))
          exact ⟨t, fun _ => ⟨h1, h2⟩⟩
        · exact ⟨true, fun h => absurd h hi⟩
      obtain ⟨ts, hts⟩ := Classical.axiomOfChoice hch
      obtain ⟨k1, hk1⟩ := Plays.all pr_mono (T := lookT tab) (pr := fun _ => clonePr clones) (f := 104) (vs := fun i => [evF (l.getD i d0), evF (k.getD i d0)]) (bs := fun _ => []) (r := fun i => (bl (ts i), [])) (m := l.length) (fun i hi => (hts i hi).2)
      obtain ⟨N, hN⟩ : ∃ N, N = k1 + l.length + 1 := ⟨_, rfl⟩
      refine Plays.wpE (vf := v103) rfl rfl ⟨N, fun A call hA hcall => ?_⟩
      have h104 := hk1 N (by omega)
      rw [← hcall] at h104
      obtain ⟨ix, hix, hz⟩ := ix_some
      obtain ⟨es, hes, C, G⟩ := evs_of hA hix l hl
      obtain ⟨fs, hfs, D, H⟩ := evs_of hA hix k hk
      have hlen : A .cmp .neq (A .len es) (A .len fs) = false := by
        rw [hA, neq_real, ← hes, ← hfs, len_real, len_real, List.length_map, List.length_map, hll]; simp
      rw [hes, hfs]
      apply wpV_seq; refine wpV_of (by ((conv => lhs; cbv); (try (with_reducible rfl)))) ?_
      apply wpV_seq; refine wpV_of (by ((conv => lhs; cbv); (repeat ((first | rewrite [hlen]); (try (conv => lhs; cbv)))); (try (with_reducible rfl)))) ?_
      apply wpV_seq; apply wpV_seq; refine wpV_of (by ((conv => lhs; cbv); (try (with_reducible rfl)))) ?_
      apply wpV_block
      refine wpV_loop l.length (fun i s => (l.take i).map nz = (k.take i).map nz ∧ s = ⟨0, [u, .one (.iv (.sl f2 8 fs)), .one (.iv (.fn 104)), u, u, u, u, u, u, u, u, u, u, u, u, .one (.iv (.sl f1 8 es)), i64 (A .len es), i64 (ix i), u, u, u, u, u, u, u, u, u, u, u, u, u, u], []⟩) (by omega) (by ((conv => lhs; cbv); (try (with_reducible rfl)))) ⟨by simp, by rw [hz]⟩ ?_
      rintro i hi s ⟨hq, rfl⟩
      by_cases him : i < l.length
      · have him' : i < k.length := by omega
        have g := G i him
        have h := H i him'
        have hne := nz_ne him him'
        have htk : nz l[i] = nz k[i] → (l.take (i + 1)).map nz = (k.take (i + 1)).map nz := fun e => by
          rw [List.take_succ_eq_append_getElem him, List.take_succ_eq_append_getElem him', List.map_append, List.map_append, hq, List.map_cons, List.map_cons, e] <;> rfl
        have hti := (hts i him).1
        have hci := h104 i him
        rw [getD_ev him, getD_ev him'] at hti hci
        generalize ts i = t at *
        generalize l[i] = x at *
        generalize k[i] = y at *
        obtain ⟨xr, xn, xt, xk, xd, xf, xx, xb, xg⟩ := x
        obtain ⟨yr, yn, yt, yk, yd, yf, yx, yb, yg⟩ := y
        dsimp only [encEv, evF] at g h hci
        cases t with
        | true =>
          refine wpV_of (by ((conv => lhs; cbv); (repeat ((first | rewrite [C.lt i him] | rewrite [g] | rewrite [h] | rewrite [hci]); (try (conv => lhs; cbv)))); (try (with_reducible rfl)))) ?_
          refine headQ_of (by ((conv => lhs; cbv); (try (with_reducible rfl)))) ?_
          exact ⟨him, htk (hti.1 rfl), (by ((rw [C.inc i him]) <;> rfl))⟩
        | false =>
          refine wpV_of (by ((conv => lhs; cbv); (repeat ((first | rewrite [C.lt i him] | rewrite [g] | rewrite [h] | rewrite [hci]); (try (conv => lhs; cbv)))); (try (with_reducible rfl)))) ?_
          refine ⟨_, ⟨false, ?_, rfl⟩, by (show finV _ _ _ = some _; ((conv => lhs; cbv); (try (with_reducible rfl))); (try rfl))⟩
          simp only [Bool.false_eq_true, false_iff]
          exact hne fun e => by have := hti.2 e; simp at this
      · obtain rfl : i = l.length := by omega
        refine wpV_of (by ((conv => lhs; cbv); (repeat ((first | rewrite [C.ge]); (try (conv => lhs; cbv)))); (try (with_reducible rfl)))) ?_
        show wpV _ _ _ _ _ _
        refine wpV_of (by ((conv => lhs; cbv); (try (with_reducible rfl)))) ?_
        refine ⟨_, ⟨true, ?_, rfl⟩, by (show finV _ _ _ = some _; ((conv => lhs; cbv); (try (with_reducible rfl))); (try rfl))⟩
        rw [List.take_length, hll, List.take_length] at hq
        simp only [true_iff]; exact hq
    · refine Plays.wpE (vf := v103) rfl rfl ⟨0, fun A call hA hcall => ?_⟩
      have hlen : A .cmp .neq (A .len (l.map encEv)) (A .len (k.map encEv)) = true := by
        rw [hA, neq_real, len_real, len_real, List.length_map, List.length_map]; simp; omega
      generalize l.map encEv = es at *
      generalize k.map encEv = fs at *
      refine wpV_of (by ((conv => lhs; cbv); (repeat ((first | rewrite [hlen]); (try (conv => lhs; cbv)))); (try (with_reducible rfl)))) ?_
      refine ⟨_, ⟨false, ?_, rfl⟩, by (show finV _ _ _ = some _; ((conv => lhs; cbv); (try (with_reducible rfl))); (try rfl))⟩
      simp only [Bool.false_eq_true, false_iff]
      intro h
      apply hll
      have := congrArg List.length h
      simpa using this
  obtain ⟨r, ⟨t, h1, rfl⟩, h2⟩ := this
  exact ⟨t, h1, h2⟩
theorem p69 (f1 f2 : Bool) (l k : List Ev) (hl : l.length ≤ 1000000000000000000) (hk : k.length ≤ 1000000000000000000) (ho : ∀ e, e ∈ l → EvOK e) (hp : ∀ e, e ∈ k → EvOK e) :
    ∃ t : Bool, (t = true ↔ l.map nz = k.map nz) ∧ Pl 69 [.one (.iv (.sl f1 8 (l.map encEv))), .one (.iv (.sl f2 8 (k.map encEv)))] (bl t) [] := by
  obtain ⟨t, ht, n, hn⟩ := p103 f1 f2 l k hl hk ho hp
  refine ⟨t, ht, Plays.wp (vf := v69) rfl rfl ⟨n, fun A call hA hcall => ?_⟩⟩
  rw [← hcall] at hn
  generalize l.map encEv = es at *
  generalize k.map encEv = fs at *
  refine wpV_of (by ((conv => lhs; cbv); (repeat ((first | rewrite [hn]); (try (conv => lhs; cbv)))); (try (with_reducible rfl)))) ?_
  (show finV _ _ _ = some _; ((conv => lhs; cbv); (try (with_reducible rfl))); (try rfl))
theorem p68 (f1 f2 : Bool) (l k : List Ev) (hl : l.length ≤ 1000000000000000000) (hk : k.length ≤ 1000000000000000000) (ho : ∀ e, e ∈ l → EvOK e) (hp : ∀ e, e ∈ k → EvOK e) {X Y : List Int} (hX : X.length = 64) (hY : Y.length = 64) :
    ∃ t : Bool, (t = true ↔ l.map nz = k.map nz ∧ X = Y) ∧ Pl 68 [pastF f1 (l.map encEv) (vec X), pastF f2 (k.map encEv) (vec Y)] (bl t) [] := by
  obtain ⟨t, ht, n, hn⟩ := p69 f1 f2 l k hl hk ho hp
  refine ⟨t && decide (X = Y), by simp [ht], ?_⟩
  refine Plays.wp (vf := v68) rfl rfl ⟨n, fun A call hA hcall => ?_⟩
  rw [← hcall] at hn
  have h := eqv_vec hX hY
  rw [← hA] at h
  generalize vec X = xs at *
  generalize vec Y = ys at *
  generalize l.map encEv = es at *
  generalize k.map encEv = fs at *
  generalize decide (X = Y) = d at *
  cases t with
  | true =>
    refine wpV_of (by ((conv => lhs; cbv); (repeat ((first | rewrite [hn] | rewrite [h]); (try (conv => lhs; cbv)))); (try (with_reducible rfl)))) ?_
    simp only [Bool.true_and]
    (show finV _ _ _ = some _; ((conv => lhs; cbv); (try (with_reducible rfl))); (try rfl))
  | false =>
    refine wpV_of (by ((conv => lhs; cbv); (repeat ((first | rewrite [hn]); (try (conv => lhs; cbv)))); (try (with_reducible rfl)))) ?_
    simp only [Bool.false_and]
    (show finV _ _ _ = some _; ((conv => lhs; cbv); (try (with_reducible rfl))); (try rfl))
end Go.Proofs.Ytomchclmnmhjaaa
