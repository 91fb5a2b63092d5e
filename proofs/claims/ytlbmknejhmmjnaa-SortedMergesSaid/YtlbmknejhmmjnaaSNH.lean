/- A heap of heads of lists, gone through: push. -/
import Derived.Test.YtlbmknejhmmjnaaSMN
set_option linter.unusedSimpArgs false
set_option linter.unusedVariables false
set_option maxRecDepth 100000
set_option maxHeartbeats 1000000
set_option cbv.maxSteps 10000000
namespace Go.Proofs.Ytlbmknejhmmjnaa
open Go GoV

structure Hd where
  x : Int
  i : Int
  f : Bool
  r : List (List IV)
def eH (h : Hd) : List IV := [.int .i64 h.x, .int .i64 h.i, .sl h.f 1 h.r]
abbrev hF (h : Hd) : FV := .agg [.iv (.int .i64 h.x), .iv (.int .i64 h.i), .iv (.sl h.f 1 h.r)]
def inH (h : Hd) : Prop := inR h.x
/-- The order of heads: by remainders, then the earlier list. -/
def ltH (a b : Hd) : Bool := decide (ky a.x < ky b.x ∨ ky a.x = ky b.x ∧ a.i < b.i)
theorem ltH_sw : SW ltH := ⟨fun x => by simp [ltH], fun x y z h1 h2 => by simp only [ltH, decide_eq_true_eq] at *; omega, fun x y z h1 h2 => by simp only [ltH, decide_eq_false_iff_not] at *; omega⟩
theorem q46 {a b : Hd} (ha : inH a) (hb : inH b) : Pn 6 46 [hF a, hF b, .one (.ptr 0 0)] [bFn] (bl (ltH a b)) [bFn] := by
  refine playN 5 rfl rfl fun A call hA hcall => ?_
  have h1 := p12 ha hb 5 (by omega)
  have h2 := p12 hb ha 5 (by omega)
  rw [← hcall] at h1 h2
  have h3 : A .cmp .lss a.i b.i = decide (a.i < b.i) := by rw [hA, lss_real]
  obtain ⟨t1, ht1⟩ : ∃ t, t = decide (ky a.x < ky b.x) := ⟨_, rfl⟩
  obtain ⟨t2, ht2⟩ : ∃ t, t = decide (ky b.x < ky a.x) := ⟨_, rfl⟩
  obtain ⟨t3, ht3⟩ : ∃ t, t = decide (a.i < b.i) := ⟨_, rfl⟩
  have e : ltH a b = (t1 || (!t2 && t3)) := by
    rw [Bool.eq_iff_iff, ht1, ht2, ht3]
    simp only [ltH, Bool.or_eq_true, Bool.and_eq_true, decide_eq_true_eq, Bool.not_eq_true', decide_eq_false_iff_not]
    omega
  rw [e]
  rw [← ht1] at h1
  rw [← ht2] at h2
  rw [← ht3] at h3
  clear ht1 ht2 ht3 e
  obtain ⟨ax, ai, aF, ar⟩ := a
  obtain ⟨bx, bi, bF, br⟩ := b
  dsimp only at h1 h2 h3
  dsimp only [hF]
  apply wpV_seq; refine wpV_of (by ((conv => lhs; cbv); (try (with_reducible rfl)))) ?_
  cases t1 with
  | true => (refine wpV_of (by ((conv => lhs; cbv); (repeat ((first | rewrite [h1]); (try (conv => lhs; cbv)))); (try (with_reducible rfl)))) ?_; (show finV _ _ _ = some _; ((conv => lhs; cbv); (repeat ((first | rewrite [h1]); (try (conv => lhs; cbv)))); (try (with_reducible rfl))); (try rfl)))
  | false =>
    cases t2 with
    | true => (refine wpV_of (by ((conv => lhs; cbv); (repeat ((first | rewrite [h1] | rewrite [h2]); (try (conv => lhs; cbv)))); (try (with_reducible rfl)))) ?_; (show finV _ _ _ = some _; ((conv => lhs; cbv); (repeat ((first | rewrite [h1] | rewrite [h2]); (try (conv => lhs; cbv)))); (try (with_reducible rfl))); (try rfl)))
    | false => (refine wpV_of (by ((conv => lhs; cbv); (repeat ((first | rewrite [h1] | rewrite [h2] | rewrite [h3]); (try (conv => lhs; cbv)))); (try (with_reducible rfl)))) ?_; (show finV _ _ _ = some _; ((conv => lhs; cbv); (repeat ((first | rewrite [h1] | rewrite [h2] | rewrite [h3]); (try (conv => lhs; cbv)))); (try (with_reducible rfl))); (try rfl)))
abbrev hbh (n : Nat) (g : Bool) (es : List (List IV)) : List Blk := [.var false [.slo 1 0 n, .fnc 46 [(2, 0)]], .arr false g 3 es, bFn]
theorem q67 (n : Nat) (es : List (List IV)) : Pn 2 67 [.one (.ptr 0 0)] (hbh n false es) (bl true) (hbh n false es) := by
  refine playN 1 rfl rfl fun A call hA hcall => ?_
  apply wpV_seq; refine wpV_of (by ((conv => lhs; cbv); (try (with_reducible rfl)))) ?_
  (refine wpV_of (by ((conv => lhs; cbv); (try (with_reducible rfl)))) ?_; (show finV _ _ _ = some _; ((conv => lhs; cbv); (try (with_reducible rfl))); (try rfl)))
theorem q68 (n : Nat) (es : List (List IV)) : Pn 2 68 [.one (.ptr 0 0)] (hbh n false es) (i64 n) (hbh n false es) := by
  refine playN 1 rfl rfl fun A call hA hcall => ?_
  obtain ⟨N, hN⟩ : ∃ N : Int, N = n := ⟨_, rfl⟩
  have h1 : A .ofN n = N := by rw [hA, hN]; rfl
  rw [← hN]
  apply wpV_seq; refine wpV_of (by ((conv => lhs; cbv); (try (with_reducible rfl)))) ?_
  apply wpV_seq; refine wpV_of (by ((conv => lhs; cbv); (try (with_reducible rfl)))) ?_
  (refine wpV_of (by ((conv => lhs; cbv); (repeat ((first | rewrite [h1]); (try (conv => lhs; cbv)))); (try (with_reducible rfl)))) ?_; (show finV _ _ _ = some _; ((conv => lhs; cbv); (repeat ((first | rewrite [h1]); (try (conv => lhs; cbv)))); (try (with_reducible rfl))); (try rfl)))
section
variable {A : Ar} (hA : A = real)
include hA
theorem getNH {c : List Hd} {zs : List (List IV)} {i : Nat} (h : i < c.length) : A .getN (c.map eH ++ zs) i = some (eH c[i]) := by
  rw [hA, real_getN, List.getElem?_append_left (by simpa using h)]; simp [h]
theorem setH {c : List Hd} {zs : List (List IV)} {i : Nat} (h : i < c.length) (x : Hd) : A .set (c.map eH ++ zs) i 0 (eH x) = some ((c.set i x).map eH ++ zs) := by
  rw [hA, real_set]
  have h1 : (c.map eH ++ zs)[i]? = some (eH c[i]) := by rw [List.getElem?_append_left (by simpa using h)]; simp [h]
  have h2 : (c.map eH ++ zs).set i (eH x) = (c.set i x).map eH ++ zs := by rw [List.set_append_left _ _ (by simpa using h), List.map_set]
  simp only [rSet, h1]
  rw [← h2]
  rfl
end
theorem inH_mem {c d : List Hd} (h : ∀ x, x ∈ c → inH x) (p : d.Perm c) : ∀ x, x ∈ d → inH x := fun x hx => h x (p.mem_iff.1 hx)
/-- Push. -/
theorem q47 (c : List Hd) (zs : List (List IV)) (x : Hd) (hc : Heap ltH c) (hl : c.length ≤ 1000) (hin : ∀ y, y ∈ c → inH y) (hx : inH x) :
    ∃ r, (∃ c' zs' g, Heap ltH c' ∧ c'.Perm (x :: c) ∧ r = ((.tup [] : FV), hbh (c.length + 1) g (c'.map eH ++ zs'))) ∧ ∀ m, 1101 ≤ m → play real (lookT tab) (fun _ => clonePr clones) m 47 [.one (.ptr 0 0), hF x] (hbh c.length false (c.map eH ++ zs)) = some r := by
  refine playE 1100 (vf := v47) rfl rfl fun A call hA hcall => ?_
  have j67 := q67 c.length (c.map eH ++ zs) 1100 (by omega)
  have j46 : ∀ a b, inH a → inH b → call 46 [hF a, hF b, .one (.ptr 0 0)] [bFn] = some (bl (ltH a b), [bFn]) := fun a b ha hb => by rw [hcall]; exact q46 ha hb 1100 (by omega)
  rw [← hcall] at j67
  obtain ⟨ar, har⟩ : ∃ ar : List Hd → List (List IV) → List (List IV), ∀ c zs, ar c zs = c.map eH ++ zs := ⟨_, fun _ _ => rfl⟩
  have happ : ∃ t zs', A .apo 40 0 c.length (c.map eH ++ zs) [eH x] = some (t, ar (c ++ [x]) zs') ∧ (t = true → zs' = []) := by
    simp only [har]
    rw [hA, real_apo]
    cases zs with
    | nil =>
      refine ⟨true, [], ?_, fun _ => rfl⟩
      have : (c.length + 1) * 40 ≤ room := by unfold room; omega
      simp [rApo, this]
    | cons z r =>
      refine ⟨false, r, ?_, fun h => by cases h⟩
      have h1 : ¬ (0 + c.length = (c.map eH ++ z :: r).length) := by simp
      have h2 : 0 + c.length + [eH x].length ≤ (c.map eH ++ z :: r).length := by simp
      simp only [rApo, if_neg h1, if_pos h2, rOver]
      simp [List.take_append, List.drop_append]
  obtain ⟨t, zs', happ, hzs⟩ := happ
  obtain ⟨d, hd⟩ : ∃ d, d = c ++ [x] := ⟨_, rfl⟩
  have hdl : d.length = c.length + 1 := by rw [hd]; simp
  have hup : UpH ltH d c.length := by rw [hd]; exact up_init hc x
  have hdp : d.Perm (x :: c) := by rw [hd]; exact List.perm_append_comm
  have hdin : ∀ y, y ∈ d → inH y := fun y hy => by
    have := hdp.mem_iff.1 hy
    rcases List.mem_cons.1 this with rfl | h
    · exact hx
    · exact hin y h
  rw [← hd] at happ
  obtain ⟨n, hn⟩ : ∃ n, n = c.length := ⟨_, rfl⟩
  have hln : t = true → A .ln (ar d zs') = n + 1 := fun h => by rw [hA, real_ln, har, hzs h]; simp [hdl, hn]
  have had : A .addN n (A .ln [eH x]) = n + 1 := by rw [hA]; rfl
  rw [← hn] at j67 happ hup hdl ⊢
  obtain ⟨n1, hn1⟩ : ∃ n1, n1 = n + 1 := ⟨_, rfl⟩
  rw [← hn1] at hln had hdl ⊢
  have o1 := ofNR hA (x := (n1 : Int)) rfl
  obtain ⟨N1, hN1⟩ : ∃ N1 : Int, N1 = n1 := ⟨_, rfl⟩
  rw [← hN1] at o1
  obtain ⟨I0, hI0⟩ : ∃ I0 : Int, I0 = N1 - 1 := ⟨_, rfl⟩
  have s1 := subR hA hI0 (by omega)
  obtain ⟨es, hes⟩ : ∃ es, es = c.map eH ++ zs := ⟨_, rfl⟩
  rw [← hes] at j67 happ ⊢
  clear hes hc
  have tail : ∀ g st0, headV false [0, 4] st0 = some ⟨3, (.one (.ptr 0 0) :: u :: u :: u :: i64 I0 :: u :: u :: u :: u :: u :: u :: u :: u :: u :: u :: u :: u :: u :: u :: u :: u :: u :: u :: u :: u :: u :: u :: u :: u :: u :: u :: u :: u :: u :: u :: u :: u :: u :: u :: u :: u :: u :: u :: u :: u :: u :: u :: u :: u :: u :: u :: u :: u :: u :: u :: u :: u :: u :: u :: u :: u :: u :: u :: u :: u :: u :: u :: u :: u :: u :: u :: u :: u :: u :: u :: u :: u :: []), hbh n1 g (ar d zs')⟩ → wpV A call (iterN 1100) (.block 0 (.loop false [0, 4] l47_0)) st0 (fun ex s => ∃ r, (∃ c' zs' g, Heap ltH c' ∧ c'.Perm (x :: c) ∧ r = ((.tup [] : FV), hbh n1 g (c'.map eH ++ zs'))) ∧ finV A v47 (ex, s) = some r) := by
    intro g st0 hst0
    apply wpV_block
    refine wpV_loop n1 (fun j st => ∃ d i I, (UpH ltH d i ∧ i + j ≤ n ∧ d.length = n1 ∧ d.Perm (x :: c) ∧ (∀ y, y ∈ d → inH y) ∧ I = (i : Int)) ∧ st = ⟨3, (.one (.ptr 0 0) :: u :: u :: u :: i64 I :: u :: u :: u :: u :: u :: u :: u :: u :: u :: u :: u :: u :: u :: u :: u :: u :: u :: u :: u :: u :: u :: u :: u :: u :: u :: u :: u :: u :: u :: u :: u :: u :: u :: u :: u :: u :: u :: u :: u :: u :: u :: u :: u :: u :: u :: u :: u :: u :: u :: u :: u :: u :: u :: u :: u :: u :: u :: u :: u :: u :: u :: u :: u :: u :: u :: u :: u :: u :: u :: u :: u :: u :: []), hbh n1 g (ar d zs')⟩) (by omega) hst0 ⟨d, n, I0, ⟨hup, by omega, hdl, hdp, hdin, by omega⟩, by rfl⟩ ?_
    rintro j hj st ⟨d, i, I, ⟨hu, hij, hdl, hdp, hdin, hI⟩, rfl⟩
    by_cases hi0 : i = 0
    · have g0 := gtF hA (a := I) (b := 0) (by omega)
      refine wpV_of (by ((conv => lhs; cbv); (repeat ((first | rewrite [g0]); (try (conv => lhs; cbv)))); (try (with_reducible rfl)))) ?_
      exact ⟨((.tup [] : FV), hbh n1 g (ar d zs')), ⟨d, zs', g, up_stop hu (by omega) (.inl hi0), hdp, by rw [har]⟩, by (show finV _ _ _ = some _; ((conv => lhs; cbv); (try (with_reducible rfl))); (try rfl))⟩
    · have g0 := gtT hA (a := I) (b := 0) (by omega)
      obtain ⟨u, hu'⟩ : ∃ u, u = (i - 1) / 2 := ⟨_, rfl⟩
      obtain ⟨J, hJ⟩ : ∃ J : Int, J = I - 1 := ⟨_, rfl⟩
      obtain ⟨U, hU⟩ : ∃ U : Int, U = J / 2 := ⟨_, rfl⟩
      have s2 := subR hA hJ (by omega)
      have q2 := quoR hA (a := J) (b := 2) (by omega) hU (by omega)
      have nz := nzR hA (a := 2) (by decide)
      have hUu : U = u := by omega
      have hil : i < d.length := by omega
      have hul : u < d.length := by omega
      have a1 := atR hA (n := n1) hI (by omega)
      have a2 := atR hA (n := n1) hUu (by omega)
      have g1 := getNH hA (zs := zs') hil
      have g2 := getNH hA (zs := zs') hul
      have w1 := setH hA (zs := zs') hil d[u]
      have w2 := setH hA (c := d.set i d[u]) (zs := zs') (i := u) (by simpa using hul) d[i]
      have kl := j46 d[i] d[u] (hdin _ (List.getElem_mem hil)) (hdin _ (List.getElem_mem hul))
      have hstep : ltH d[i] d[u] = true → UpH ltH (swp d i u hil hul) u := fun h => by
        have := up_step ltH_sw hu hil (by omega) (by simpa only [hu'] using h)
        simpa only [← hu'] using this
      have hstop : ltH d[i] d[u] = false → Heap ltH d := fun h => up_stop hu hil (.inr ⟨by omega, by simpa only [hu'] using h⟩)
      have hsp := swp_perm d i u hil hul
      rw [show (d.set i d[u]).set u d[i] = swp d i u hil hul from rfl] at w2
      have hsl := swp_len d i u hil hul
      have hdin' := inH_mem hdin hsp
      generalize swp d i u hil hul = d2 at *
      rw [← har] at g1 g2 w1 w2
      rw [← har] at w1 w2
      generalize ar (d.set i d[u]) zs' = es2 at *
      generalize ltH d[i] d[u] = tl at *
      generalize d[i] = xi at *
      generalize d[u] = xu at *
      obtain ⟨ix, ii, iF, ir⟩ := xi
      obtain ⟨ux, ui, uF, ur⟩ := xu
      generalize hE : ar d zs' = E at *
      generalize hE2 : ar d2 zs' = E2 at *
      dsimp only [eH, hF] at g1 g2 w1 w2 kl
      apply wpV_seq; refine wpV_of (by ((conv => lhs; cbv); (repeat ((first | rewrite [g0]); (try (conv => lhs; cbv)))); (try (with_reducible rfl)))) ?_
      cases tl with
      | false =>
        refine wpV_of (by ((conv => lhs; cbv); (repeat ((first | rewrite [s2] | rewrite [nz] | rewrite [q2] | rewrite [a1] | rewrite [g1] | rewrite [a2] | rewrite [g2] | rewrite [kl]); (try (conv => lhs; cbv)))); (try (with_reducible rfl)))) ?_
        exact ⟨((.tup [] : FV), hbh n1 g E), ⟨d, zs', g, hstop rfl, hdp, by rw [← hE, har]⟩, by (show finV _ _ _ = some _; ((conv => lhs; cbv); (try (with_reducible rfl))); (try rfl))⟩
      | true =>
        refine wpV_of (by ((conv => lhs; cbv); (repeat ((first | rewrite [s2] | rewrite [nz] | rewrite [q2] | rewrite [a1] | rewrite [g1] | rewrite [a2] | rewrite [g2] | rewrite [kl] | rewrite [w1] | rewrite [w2]); (try (conv => lhs; cbv)))); (try (with_reducible rfl)))) ?_
        refine headQ_of (by ((conv => lhs; cbv); (try (with_reducible rfl)))) ?_
        exact ⟨by omega, d2, u, U, ⟨hstep rfl, by omega, by omega, hsp.trans hdp, hdin', hUu⟩, by rw [hE2]⟩
  obtain ⟨xx, xi, xF, xr⟩ := x
  dsimp only [eH, hF] at happ had ⊢
  apply wpV_seq; refine wpV_of (by ((conv => lhs; cbv); (try (with_reducible rfl)))) ?_
  apply wpV_seq; refine wpV_of (by ((conv => lhs; cbv); (repeat ((first | rewrite [j67]); (try (conv => lhs; cbv)))); (try (with_reducible rfl)))) ?_
  cases t with
  | true =>
    have hln := hln rfl
    apply wpV_seq; refine wpV_of (by ((conv => lhs; cbv); (repeat ((first | rewrite [happ] | rewrite [hln]); (try (conv => lhs; cbv)))); (try (with_reducible rfl)))) ?_
    apply wpV_seq; refine wpV_of (by ((conv => lhs; cbv); (repeat ((first | rewrite [o1] | rewrite [s1]); (try (conv => lhs; cbv)))); (try (with_reducible rfl)))) ?_
    exact tail true _ (by ((conv => lhs; cbv); (repeat ((first | rewrite [hln] | rewrite [o1] | rewrite [s1]); (try (conv => lhs; cbv)))); (try (with_reducible rfl))))
  | false =>
    apply wpV_seq; refine wpV_of (by ((conv => lhs; cbv); (repeat ((first | rewrite [happ] | rewrite [had]); (try (conv => lhs; cbv)))); (try (with_reducible rfl)))) ?_
    apply wpV_seq; refine wpV_of (by ((conv => lhs; cbv); (repeat ((first | rewrite [o1] | rewrite [s1]); (try (conv => lhs; cbv)))); (try (with_reducible rfl)))) ?_
    exact tail false _ (by ((conv => lhs; cbv); (repeat ((first | rewrite [had] | rewrite [o1] | rewrite [s1]); (try (conv => lhs; cbv)))); (try (with_reducible rfl))))

end Go.Proofs.Ytlbmknejhmmjnaa
