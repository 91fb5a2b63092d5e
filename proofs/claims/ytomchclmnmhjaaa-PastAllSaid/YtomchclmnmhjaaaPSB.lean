/- What one lacks, and two pasts as one: as equations. -/
import Derived.Test.YtomchclmnmhjaaaPSA
set_option linter.unusedSimpArgs false
set_option linter.unusedVariables false
set_option maxRecDepth 100000
set_option maxHeartbeats 1000000
namespace Go.Proofs.Ytomchclmnmhjaaa
open Go GoV

theorem p63n (fl : Bool) (l : List Ev) {X V : List Int} (hX : X.length = 64) (hV : V.length = 64) (most : Int) (hw : withinB X V = false) :
    Pl 63 [pastF fl (l.map encEv) (vec X), vecF V, i64 most] noneF [] := by
  obtain ⟨k1, h28⟩ := p28 hX hV
  rw [within_eq hX hV, hw] at h28
  refine Plays.wp (vf := v63) rfl rfl ⟨k1, fun A call hA hcall => ?_⟩
  rw [← hcall] at h28
  dsimp only [vecF] at h28 ⊢
  generalize vec X = xs at *
  generalize vec V = vs at *
  generalize l.map encEv = es at *
  refine wpV_of (by ((conv => lhs; cbv); (repeat ((first | rewrite [h28]); (try (conv => lhs; cbv)))); (try (with_reducible rfl)))) ?_
  (show finV _ _ _ = some _; ((conv => lhs; cbv); (try (with_reducible rfl))); (try rfl))
theorem p64n (fl : Bool) (l : List Ev) {X V : List Int} (hX : X.length = 64) (hV : V.length = 64) (most : Int) (hw : withinB X V = false) :
    Pl 64 [pastF fl (l.map encEv) (vec X), vecF V, i64 most] noneF [] := by
  obtain ⟨k1, h31⟩ := p31 hX hV
  rw [hw] at h31
  refine Plays.wp (vf := v64) rfl rfl ⟨k1, fun A call hA hcall => ?_⟩
  rw [← hcall] at h31
  dsimp only [vecF] at h31 ⊢
  generalize vec X = xs at *
  generalize vec V = vs at *
  generalize l.map encEv = es at *
  refine wpV_of (by ((conv => lhs; cbv); (repeat ((first | rewrite [h31]); (try (conv => lhs; cbv)))); (try (with_reducible rfl)))) ?_
  (show finV _ _ _ = some _; ((conv => lhs; cbv); (try (with_reducible rfl))); (try rfl))
theorem p63 (fl : Bool) (l : List Ev) (hl : l.length * 96 ≤ reachBytes) (hg : ∀ e, e ∈ l → e.g.length * 16 ≤ reachBytes) {X V : List Int} (hX : X.length = 64) (hV : V.length = 64) (most : Int) (hw : withinB X V = true) :
    Pl 63 [pastF fl (l.map encEv) (vec X), vecF V, i64 most] (sinceF (l.foldl (sF V most) []).length) [.arr false false 8 (((l.foldl (sF V most) []).map clE).map encEv)] := by
  have hrb : reachBytes = 140737488351232 := rfl
  have hrm := room_val
  have hrng := fun i => sF_len V most (l.take i) []
  obtain ⟨k0, h28⟩ := (p28 hX hV).at pr_mono
  rw [within_eq hX hV, hw] at h28
  obtain ⟨k1, hk1⟩ := Plays.all pr_mono (T := lookT tab) (pr := fun _ => clonePr clones) (f := 97) (vs := fun i => [evF (l.getD i d0)]) (bs := fun _ => []) (r := fun i => (evC (l.getD i d0) (l.getD i d0).g.length, [.arr false false 2 (l.getD i d0).g])) (m := l.length)
    (fun i hi => by
      have := hg l[i] (List.getElem_mem hi)
      rw [getD_ev hi]
      exact p97 _ this)
  obtain ⟨k2, hk2⟩ := Plays.all pr_mono (T := lookT tab) (pr := fun _ => clonePr clones) (f := 21) (vs := fun i => [vecF V, dotF (l.getD i d0).r (l.getD i d0).n]) (bs := fun _ => []) (r := fun i => (bl (hasB V (l.getD i d0).r (l.getD i d0).n), [])) (m := l.length)
    (fun i hi => p21 hV _ _)
  obtain ⟨N, hN⟩ : ∃ N, N = k0 + k1 + k2 + l.length + 1 := ⟨_, rfl⟩
  refine Plays.wp (vf := v63) rfl rfl ⟨N, fun A call hA hcall => ?_⟩
  have h28 := h28 N (by omega)
  have h97 := hk1 N (by omega)
  have h21 := hk2 N (by omega)
  rw [← hcall] at h28 h97 h21
  obtain ⟨ix, hix, hz⟩ := ix_some
  obtain ⟨es, hes, C, G⟩ := evs_of hA hix l (by omega)
  rw [hes]
  obtain ⟨st, hst⟩ : ∃ st : Nat → List Ev, ∀ i, st i = (l.take i).foldl (sF V most) [] := ⟨_, fun _ => rfl⟩
  obtain ⟨out, hout⟩ : ∃ out : Nat → List (List IV), ∀ i, out i = ((st i).map clE).map encEv := ⟨_, fun _ => rfl⟩
  obtain ⟨nn, hnn⟩ : ∃ nn : Nat → Nat, ∀ i, nn i = (st i).length := ⟨_, fun _ => rfl⟩
  have he : l.foldl (sF V most) [] = st l.length := by rw [hst, List.take_length]
  rw [he, ← hout, ← hnn]
  obtain ⟨mx, hmx⟩ : ∃ mx, mx = max most 0 := ⟨_, rfl⟩
  have hmx' : A .mx most 0 = mx := by rw [hA, mx_real, hmx]
  dsimp only [vecF] at h28 h21 ⊢
  generalize hxs : vec X = xs at *
  generalize hvs : vec V = vs at *
  apply wpV_seq; refine wpV_of (by ((conv => lhs; cbv); (try (with_reducible rfl)))) ?_
  apply wpV_seq; refine wpV_of (by ((conv => lhs; cbv); (repeat ((first | rewrite [h28]); (try (conv => lhs; cbv)))); (try (with_reducible rfl)))) ?_
  apply wpV_seq; refine wpV_of (by ((conv => lhs; cbv); (try (with_reducible rfl)))) ?_
  apply wpV_seq; apply wpV_seq; refine wpV_of (by ((conv => lhs; cbv); (try (with_reducible rfl)))) ?_
  apply wpV_block
  refine wpV_loop l.length (fun i s => s = ⟨0, [u, u, i64 most, u, .one (.ptr 0 0), u, u, u, .one (.slo 1 0 (nn i)), u, u, u, u, u, u, u, u, .one (.iv (.sl fl 8 es)), i64 (A .len es), i64 (ix i), u, u, u, u, u, u, u, u, u, u, u, u, u, u, u, u, u, u, u, u, u, u],
    [.var false [.iv (.arr 64 vs)], .arr false false 8 (out i)]⟩) (by omega) (by ((conv => lhs; cbv); (try (with_reducible rfl)))) (by rw [hz, hout, hnn, hst]; rfl) ?_
  rintro i hi s rfl
  by_cases him : i < l.length
  · have g := G i him
    have h97i := h97 i him
    have h21i := h21 i him
    have hr := hrng i
    rw [← hst] at hr
    simp only [List.length_take, List.length_nil] at hr
    have hgl := hg l[i] (List.getElem_mem him)
    have hs : st (i + 1) = sF V most (st i) l[i] := by rw [hst, hst, foldl_take _ _ him]
    rw [getD_ev him] at h97i h21i
    have hk : (hasB V l[i].r l[i].n = true ∧ out i = out (i + 1) ∧ nn i = nn (i + 1)) ∨ (hasB V l[i].r l[i].n = false ∧ A .cmp .lss (A .ofN (nn i)) mx = false ∧ out i = out (i + 1) ∧ nn i = nn (i + 1)) ∨
        (hasB V l[i].r l[i].n = false ∧ A .cmp .lss (A .ofN (nn i)) mx = true ∧ A .seg l[i].g 0 l[i].g.length = l[i].g ∧ A .apo 96 0 (nn i) (out i) [cells l[i] (A .isE l[i].g) l[i].g] = some (true, out (i + 1)) ∧ A .ln (out (i + 1)) = nn (i + 1)) := by
      rw [hA, hout, hout, hnn, hnn, hs, real_ofN, lss_real]
      cases hk : hasB V l[i].r l[i].n with
      | true => left; simp [sF, hk]
      | false =>
        right
        by_cases hlt : ((st i).length : Int) < most
        · right
          simp only [sF, hk, hlt, and_self, if_true]
          refine ⟨trivial, decide_eq_true (by omega), seg_all _, ?_, by rw [ln_real]; simp⟩
          have := apo_room (b := 96) (es := ((st i).map clE).map encEv) (c := cells l[i] (real .isE l[i].g) l[i].g) (by simp only [List.length_map]; omega)
          simp only [List.length_map] at this
          rw [this, List.map_append, List.map_append]; rfl
        · left
          simp only [sF, hk, hlt, and_false, if_false]
          exact ⟨trivial, decide_eq_false (by omega), trivial, trivial⟩
    generalize hasB V l[i].r l[i].n = t at *
    generalize l[i] = x at *
    obtain ⟨L, hL⟩ : ∃ L, x.g.length = L := ⟨_, rfl⟩
    rw [hL] at h97i hk
    obtain ⟨er, en, et, ek, ed, ef, ex, eb, eg⟩ := x
    dsimp only [evF, cells, evC, encEv] at g h97i h21i hk
    rcases hk with ⟨rfl, b4, b5⟩ | ⟨rfl, b1, b4, b5⟩ | ⟨rfl, b1, a1, a2, a3⟩
    · refine wpV_of (by ((conv => lhs; cbv); (repeat ((first | rewrite [C.lt i him] | rewrite [g] | rewrite [h21i]); (try (conv => lhs; cbv)))); (try (with_reducible rfl)))) ?_
      refine headQ_of (by ((conv => lhs; cbv); (try (with_reducible rfl)))) ?_
      exact ⟨him, (by ((rw [C.inc i him, b4, b5]) <;> rfl))⟩
    · refine wpV_of (by ((conv => lhs; cbv); (repeat ((first | rewrite [C.lt i him] | rewrite [g] | rewrite [h21i] | rewrite [hmx'] | rewrite [b1]); (try (conv => lhs; cbv)))); (try (with_reducible rfl)))) ?_
      refine headQ_of (by ((conv => lhs; cbv); (try (with_reducible rfl)))) ?_
      exact ⟨him, (by ((rw [C.inc i him, b4, b5]) <;> rfl))⟩
    · refine wpV_of (by ((conv => lhs; cbv); (repeat ((first | rewrite [C.lt i him] | rewrite [g] | rewrite [h21i] | rewrite [hmx'] | rewrite [b1] | rewrite [h97i] | rewrite [a1] | rewrite [a2] | rewrite [a3]); (try (conv => lhs; cbv)))); (try (with_reducible rfl)))) ?_
      refine headQ_of (by ((conv => lhs; cbv); (try (with_reducible rfl)))) ?_
      exact ⟨him, (by ((rw [C.inc i him, a3]) <;> rfl))⟩
  · obtain rfl : i = l.length := by omega
    refine wpV_of (by ((conv => lhs; cbv); (repeat ((first | rewrite [C.ge]); (try (conv => lhs; cbv)))); (try (with_reducible rfl)))) ?_
    show wpV _ _ _ _ _ _
    refine wpV_of (by ((conv => lhs; cbv); (try (with_reducible rfl)))) ?_
    (show finV _ _ _ = some _; ((conv => lhs; cbv); (try (with_reducible rfl))); (try rfl))
theorem p64 (fl : Bool) (l : List Ev) (hl : l.length * 96 ≤ reachBytes) {X V : List Int} (hX : X.length = 64) (hV : V.length = 64) (most : Int) (hw : withinB X V = true) :
    Pl 64 [pastF fl (l.map encEv) (vec X), vecF V, i64 most] (sinceF (l.foldl (sF V most) []).length) [.arr false false 8 ((l.foldl (sF V most) []).map encEv)] := by
  have hrb : reachBytes = 140737488351232 := rfl
  have hrm := room_val
  have hrng := fun i => sF_len V most (l.take i) []
  obtain ⟨k0, h31⟩ := (p31 hX hV).at pr_mono
  rw [hw] at h31
  obtain ⟨k2, hk2⟩ := Plays.all pr_mono (T := lookT tab) (pr := fun _ => clonePr clones) (f := 22) (vs := fun i => [vecF V, dotF (l.getD i d0).r (l.getD i d0).n]) (bs := fun _ => []) (r := fun i => (bl (hasB V (l.getD i d0).r (l.getD i d0).n), [])) (m := l.length)
    (fun i hi => p22 hV _ _)
  obtain ⟨N, hN⟩ : ∃ N, N = k0 + k2 + l.length + 1 := ⟨_, rfl⟩
  refine Plays.wp (vf := v64) rfl rfl ⟨N, fun A call hA hcall => ?_⟩
  have h31 := h31 N (by omega)
  have h22 := hk2 N (by omega)
  rw [← hcall] at h31 h22
  obtain ⟨ix, hix, hz⟩ := ix_some
  obtain ⟨es, hes, C, G⟩ := evs_of hA hix l (by omega)
  rw [hes]
  obtain ⟨st, hst⟩ : ∃ st : Nat → List Ev, ∀ i, st i = (l.take i).foldl (sF V most) [] := ⟨_, fun _ => rfl⟩
  obtain ⟨out, hout⟩ : ∃ out : Nat → List (List IV), ∀ i, out i = (st i).map encEv := ⟨_, fun _ => rfl⟩
  obtain ⟨nn, hnn⟩ : ∃ nn : Nat → Nat, ∀ i, nn i = (st i).length := ⟨_, fun _ => rfl⟩
  have he : l.foldl (sF V most) [] = st l.length := by rw [hst, List.take_length]
  rw [he, ← hout, ← hnn]
  dsimp only [vecF] at h31 h22 ⊢
  generalize hxs : vec X = xs at *
  generalize hvs : vec V = vs at *
  apply wpV_seq; refine wpV_of (by ((conv => lhs; cbv); (try (with_reducible rfl)))) ?_
  apply wpV_seq; refine wpV_of (by ((conv => lhs; cbv); (repeat ((first | rewrite [h31]); (try (conv => lhs; cbv)))); (try (with_reducible rfl)))) ?_
  apply wpV_seq; refine wpV_of (by ((conv => lhs; cbv); (try (with_reducible rfl)))) ?_
  apply wpV_seq; apply wpV_seq; refine wpV_of (by ((conv => lhs; cbv); (try (with_reducible rfl)))) ?_
  apply wpV_block
  refine wpV_loop l.length (fun i s => s = ⟨0, [u, u, i64 most, u, .one (.ptr 0 0), u, u, u, .one (.slo 1 0 (nn i)), u, u, u, u, u, u, u, u, .one (.iv (.sl fl 8 es)), i64 (A .len es), i64 (ix i), u, u, u, u, u, u, u, u, u, u, u, u, u, u, u, u, u, u, u, u],
    [.var false [.iv (.arr 64 vs)], .arr false false 8 (out i)]⟩) (by omega) (by ((conv => lhs; cbv); (try (with_reducible rfl)))) (by rw [hz, hout, hnn, hst]; rfl) ?_
  rintro i hi s rfl
  by_cases him : i < l.length
  · have g := G i him
    have h22i := h22 i him
    have hr := hrng i
    rw [← hst] at hr
    simp only [List.length_take, List.length_nil] at hr
    have hs : st (i + 1) = sF V most (st i) l[i] := by rw [hst, hst, foldl_take _ _ him]
    rw [getD_ev him] at h22i
    have hk : (A .cmp .lss (A .ofN (nn i)) most = false ∧ out i = out (i + 1) ∧ nn i = nn (i + 1)) ∨ (A .cmp .lss (A .ofN (nn i)) most = true ∧ hasB V l[i].r l[i].n = true ∧ out i = out (i + 1) ∧ nn i = nn (i + 1)) ∨
        (A .cmp .lss (A .ofN (nn i)) most = true ∧ hasB V l[i].r l[i].n = false ∧ A .apo 96 0 (nn i) (out i) [encEv l[i]] = some (true, out (i + 1)) ∧ A .ln (out (i + 1)) = nn (i + 1)) := by
      rw [hA, hout, hout, hnn, hnn, hs, real_ofN, lss_real]
      by_cases hlt : ((st i).length : Int) < most
      · right
        cases hk : hasB V l[i].r l[i].n with
        | true => left; simp [sF, hk, hlt]
        | false =>
          right
          simp only [sF, hk, hlt, and_self, if_true]
          refine ⟨decide_eq_true trivial, trivial, ?_, by rw [ln_real]; simp⟩
          have := apo_room (b := 96) (es := (st i).map encEv) (c := encEv l[i]) (by simp only [List.length_map]; omega)
          simp only [List.length_map] at this
          rw [this, List.map_append]; rfl
      · left
        simp only [sF, hlt, and_false, if_false]
        exact ⟨decide_eq_false (by simp), trivial, trivial⟩
    generalize hasB V l[i].r l[i].n = t at *
    generalize l[i] = x at *
    obtain ⟨er, en, et, ek, ed, ef, ex, eb, eg⟩ := x
    dsimp only [encEv] at g h22i hk
    rcases hk with ⟨b1, b4, b5⟩ | ⟨b1, rfl, b4, b5⟩ | ⟨b1, rfl, a2, a3⟩
    · refine wpV_of (by ((conv => lhs; cbv); (repeat ((first | rewrite [C.lt i him] | rewrite [g] | rewrite [b1]); (try (conv => lhs; cbv)))); (try (with_reducible rfl)))) ?_
      refine headQ_of (by ((conv => lhs; cbv); (try (with_reducible rfl)))) ?_
      exact ⟨him, (by ((rw [C.inc i him, b4, b5]) <;> rfl))⟩
    · refine wpV_of (by ((conv => lhs; cbv); (repeat ((first | rewrite [C.lt i him] | rewrite [g] | rewrite [b1] | rewrite [h22i]); (try (conv => lhs; cbv)))); (try (with_reducible rfl)))) ?_
      refine headQ_of (by ((conv => lhs; cbv); (try (with_reducible rfl)))) ?_
      exact ⟨him, (by ((rw [C.inc i him, b4, b5]) <;> rfl))⟩
    · refine wpV_of (by ((conv => lhs; cbv); (repeat ((first | rewrite [C.lt i him] | rewrite [g] | rewrite [b1] | rewrite [h22i] | rewrite [a2] | rewrite [a3]); (try (conv => lhs; cbv)))); (try (with_reducible rfl)))) ?_
      refine headQ_of (by ((conv => lhs; cbv); (try (with_reducible rfl)))) ?_
      exact ⟨him, (by ((rw [C.inc i him, a3]) <;> rfl))⟩
  · obtain rfl : i = l.length := by omega
    refine wpV_of (by ((conv => lhs; cbv); (repeat ((first | rewrite [C.ge]); (try (conv => lhs; cbv)))); (try (with_reducible rfl)))) ?_
    show wpV _ _ _ _ _ _
    refine wpV_of (by ((conv => lhs; cbv); (try (with_reducible rfl)))) ?_
    (show finV _ _ _ = some _; ((conv => lhs; cbv); (try (with_reducible rfl))); (try rfl))

/-! ### Two pasts as one -/
def adds (l k : List Ev) : List Ev := k.foldl add l
theorem adds_len : ∀ (k l : List Ev), (adds l k).length ≤ l.length + k.length
  | [], l => by simp [adds]
  | e :: r, l => by
    have h := adds_len r (add l e)
    have : (add l e).length ≤ l.length + 1 := by simp only [add]; cases hasD l e.r e.n <;> simp
    show (adds (add l e) r).length ≤ _
    simp only [List.length_cons]; omega
theorem add_clcl (l : List Ev) (e : Ev) : (add (l.map clE) e).map clE = (add l e).map clE := by
  simp only [add, hasD_cl]
  cases hasD l e.r e.n <;> simp [clE]
theorem ok2_add {l : List Ev} {e : Ev} (h : ∀ e, e ∈ l → EvOK e) (he : EvOK e) : ∀ x, x ∈ add l e → EvOK x := by
  simp only [add]
  cases hasD l e.r e.n
  · intro x hx
    simp only [cond_false, List.mem_append, List.mem_singleton] at hx
    rcases hx with hx | rfl
    · exact h x hx
    · exact he
  · exact h
theorem ok2_adds : ∀ (k : List Ev) {l : List Ev}, (∀ e, e ∈ l → EvOK e) → (∀ e, e ∈ k → EvOK e) → ∀ x, x ∈ adds l k → EvOK x
  | [], l, h, _ => h
  | e :: r, l, h, hk => ok2_adds r (l := add l e) (ok2_add h (hk e (by simp))) (fun x hx => hk x (by simp [hx]))
theorem ok2_cl {l : List Ev} (h : ∀ e, e ∈ l → EvOK e) : ∀ e, e ∈ l.map clE → EvOK e := by
  intro e he
  obtain ⟨x, hx, rfl⟩ := List.mem_map.1 he
  exact h x hx
theorem p66 (f1 f2 : Bool) (l k : List Ev) (hl : (l.length + k.length + 1) * 96 ≤ room) (ho : ∀ e, e ∈ l → EvOK e) (hp : ∀ e, e ∈ k → EvOK e) {X Y : List Int} (hX : X.length = 64) (hY : Y.length = 64) :
    ∃ z, Pl 66 [pastF f1 (l.map encEv) (vec X), pastF f2 (k.map encEv) (vec Y)] (.agg [.slo 0 0 (adds l k).length, .iv (.arr 64 (vec (joinI X Y)))]) [.arr z false 8 (((adds l k).map clE).map encEv)] := by
  have hbig : ∀ n, n ≤ l.length + k.length + 1 → n * 96 ≤ room := fun n hn => Nat.le_trans (Nat.mul_le_mul_right 96 hn) hl
  have hk18 : k.length ≤ 1000000000000000000 := by have hrm := room_val; omega
  clear hl
  obtain ⟨k0, h26⟩ := (p26 hX hY).at pr_mono
  obtain ⟨k1, h98⟩ := (p98 f1 l (hbig _ (by omega)) (fun e he => (ho e he).1)).at pr_mono
  obtain ⟨st, hst⟩ : ∃ st : Nat → List Ev, ∀ i, st i = adds l (k.take i) := ⟨_, fun _ => rfl⟩
  have hlen : ∀ i, (st i).length ≤ l.length + i := fun i => by
    have := adds_len (k.take i) l
    rw [hst]; simp only [List.length_take] at this; omega
  have hok : ∀ i, ∀ e, e ∈ st i → EvOK e := fun i => by rw [hst]; exact ok2_adds _ ho (fun e he => hp e (List.mem_of_mem_take he))
  obtain ⟨out, hout⟩ : ∃ out : Nat → List (List IV), ∀ i, out i = ((st i).map clE).map encEv := ⟨_, fun _ => rfl⟩
  obtain ⟨nn, hnn⟩ : ∃ nn : Nat → Nat, ∀ i, nn i = (st i).length := ⟨_, fun _ => rfl⟩
  have hs : ∀ i (hi : i < k.length), st (i + 1) = add (st i) k[i] := fun i hi => by
    rw [hst, hst, adds, adds, List.take_succ_eq_append_getElem hi, List.foldl_append]; rfl
  obtain ⟨k2, hk2⟩ := Plays.all pr_mono (T := lookT tab) (pr := fun _ => clonePr clones) (f := 59) (vs := fun i => [pastF (isE (out i)) (out i) (vec (joinI X Y)), evF (k.getD i d0)]) (bs := fun _ => [])
    (r := fun i => (.agg [.slo 0 0 (nn (i + 1)), .iv (.arr 64 (vec (joinI X Y)))], [.arr true false 8 (out (i + 1))])) (m := k.length)
    (fun i hi => by
      have hl2 := hlen i
      have hl3 : (((st i).map clE).length + 1) * 96 ≤ room := hbig _ (by rw [List.length_map]; omega)
      have h := p59 (isE (out i)) ((st i).map clE) hl3 (fun e he => (ok2_cl (hok i) e he).1) (vec (joinI X Y)) k[i] (hp _ (List.getElem_mem hi)).1
      rw [add_clcl, ← hs i hi, ← hout, ← hout] at h
      rw [getD_ev hi]
      have e : (add ((st i).map clE) k[i]).length = nn (i + 1) := by
        have := congrArg List.length (add_clcl (st i) k[i])
        rw [← hs i hi] at this
        simp only [List.length_map] at this
        rw [this, hnn]
      rw [e] at h
      exact h)
  obtain ⟨N, hN⟩ : ∃ N, N = k0 + k1 + k2 + k.length + 1 := ⟨_, rfl⟩
  have : ∃ r, (∃ z, r = (FV.agg [.slo 0 0 (adds l k).length, .iv (.arr 64 (vec (joinI X Y)))], [Blk.arr z false 8 (((adds l k).map clE).map encEv)])) ∧ Plays (lookT tab) (fun _ => clonePr clones) 66 [pastF f1 (l.map encEv) (vec X), pastF f2 (k.map encEv) (vec Y)] [] r := by
    refine Plays.wpE (vf := v66) rfl rfl ⟨N, fun A call hA hcall => ?_⟩
    have h26 := h26 N (by omega)
    have h98 := h98 N (by omega)
    have h59 := hk2 N (by omega)
    rw [← hcall] at h26 h98 h59
    obtain ⟨ix, hix, hz⟩ := ix_some
    obtain ⟨fs, hfs, C, G⟩ := evs_of hA hix k hk18
    have e0 : (l.map clE).map encEv = out 0 := by rw [hout, hst]; rfl
    have n0 : l.length = nn 0 := by rw [hnn, hst]; rfl
    have hsg : ∀ i, A .seg (out i) 0 (nn i) = out i ∧ A .isE (out i) = isE (out i) := fun i => by
      rw [hA, hout, hnn]
      have := seg_all (((st i).map clE).map encEv)
      simp only [List.length_map] at this
      exact ⟨this, rfl⟩
    have hee : ((adds l k).map clE).map encEv = out k.length := by rw [hout, hst, List.take_length]
    have hne : (adds l k).length = nn k.length := by rw [hnn, hst, List.take_length]
    rw [hfs, hee, hne]
    rw [e0, n0] at h98
    dsimp only [vecF] at h26 ⊢
    generalize vec (joinI X Y) = ws at *
    generalize vec X = xs at *
    generalize vec Y = ys at *
    generalize l.map encEv = es at *
    apply wpV_seq; refine wpV_of (by ((conv => lhs; cbv); (try (with_reducible rfl)))) ?_
    apply wpV_seq; refine wpV_of (by ((conv => lhs; cbv); (repeat ((first | rewrite [h98] | rewrite [h26]); (try (conv => lhs; cbv)))); (try (with_reducible rfl)))) ?_
    apply wpV_seq; apply wpV_seq; refine wpV_of (by ((conv => lhs; cbv); (try (with_reducible rfl)))) ?_
    apply wpV_block
    refine wpV_loop k.length (fun i s => ∃ z, s = ⟨0, [u, u, u, u, .one (.ptr 0 0), .one (.ptr 1 0), u, u, u, u, u, u, u, u, u, u, u, u, .one (.iv (.sl f2 8 fs)), i64 (A .len fs), i64 (ix i), u, u, u, u, u, u, u, u],
      [.var false [.iv (.sl true 0 []), .iv (.arr 64 (List.replicate 64 (.int .i64 0)))], .var false [.slo 2 0 (nn i), .iv (.arr 64 ws)], .arr z false 8 (out i)]⟩) (by omega) (by ((conv => lhs; cbv); (try (with_reducible rfl)))) ⟨false, by rw [hz]; rfl⟩ ?_
    rintro i hi s ⟨z, rfl⟩
    by_cases him : i < k.length
    · have g := G i him
      have h59i := h59 i him
      rw [getD_ev him] at h59i
      obtain ⟨a1, a2⟩ := hsg i
      rw [← a2] at h59i
      generalize k[i] = x at *
      obtain ⟨er, en, et, ek, ed, ef, ex, eb, eg⟩ := x
      dsimp only [evF, encEv] at g h59i
      refine wpV_of (by ((conv => lhs; cbv); (repeat ((first | rewrite [C.lt i him] | rewrite [g] | rewrite [a1] | rewrite [h59i]); (try (conv => lhs; cbv)))); (try (with_reducible rfl)))) ?_
      refine headQ_of (by ((conv => lhs; cbv); (try (with_reducible rfl)))) ?_
      exact ⟨him, true, (by ((rw [C.inc i him]) <;> rfl))⟩
    · obtain rfl : i = k.length := by omega
      refine wpV_of (by ((conv => lhs; cbv); (repeat ((first | rewrite [C.ge]); (try (conv => lhs; cbv)))); (try (with_reducible rfl)))) ?_
      show wpV _ _ _ _ _ _
      refine wpV_of (by ((conv => lhs; cbv); (try (with_reducible rfl)))) ?_
      cases z with
      | true => exact ⟨_, ⟨true, rfl⟩, by (show finV _ _ _ = some _; ((conv => lhs; cbv); (try (with_reducible rfl))); (try rfl))⟩
      | false => exact ⟨_, ⟨false, rfl⟩, by (show finV _ _ _ = some _; ((conv => lhs; cbv); (try (with_reducible rfl))); (try rfl))⟩
  obtain ⟨r, ⟨z, rfl⟩, h⟩ := this
  exact ⟨z, h⟩
end Go.Proofs.Ytomchclmnmhjaaa
