/- A heap of numbers, gone through. -/
import Derived.Test.YtlbmknejhmmjnaaSHP
set_option linter.unusedSimpArgs false
set_option linter.unusedVariables false
set_option maxRecDepth 100000
set_option maxHeartbeats 1000000
set_option cbv.maxSteps 10000000
namespace Go.Proofs.Ytlbmknejhmmjnaa
open Go GoV

section nums
variable {A : Ar} (hA : A = real)
include hA
theorem ltT {a b : Int} (h : a < b) : A .cmp .lss a b = true := by rw [hA, lss_real]; exact decide_eq_true h
theorem ltF {a b : Int} (h : b ≤ a) : A .cmp .lss a b = false := by rw [hA, lss_real]; exact decide_eq_false (by omega)
theorem leT {a b : Int} (h : a ≤ b) : A .cmp .leq a b = true := by rw [hA, leq_real]; exact decide_eq_true h
theorem leF {a b : Int} (h : b < a) : A .cmp .leq a b = false := by rw [hA, leq_real]; exact decide_eq_false (by omega)
theorem gtT {a b : Int} (h : b < a) : A .cmp .gtr a b = true := by rw [hA, gtr_real]; exact decide_eq_true h
theorem gtF {a b : Int} (h : a ≤ b) : A .cmp .gtr a b = false := by rw [hA, gtr_real]; exact decide_eq_false (by omega)
theorem geT {a b : Int} (h : b ≤ a) : A .cmp .geq a b = true := by rw [hA, geq_real]; exact decide_eq_true h
theorem geF {a b : Int} (h : a < b) : A .cmp .geq a b = false := by rw [hA, geq_real]; exact decide_eq_false (by omega)
theorem eqT {a b : Int} (h : a = b) : A .cmp .eql a b = true := by rw [hA, eql_real]; exact decide_eq_true h
theorem eqF {a b : Int} (h : a ≠ b) : A .cmp .eql a b = false := by rw [hA, eql_real]; exact decide_eq_false h
theorem neT {a b : Int} (h : a ≠ b) : A .cmp .neq a b = true := by rw [hA, neq_real]; exact decide_eq_true h
theorem neF {a b : Int} (h : a = b) : A .cmp .neq a b = false := by rw [hA, neq_real]; exact decide_eq_false (by simp [h])
theorem addR {a b c : Int} (h : c = a + b) (hc : -9223372036854775808 ≤ c ∧ c ≤ 9223372036854775807) : A .ar .add .i64 a b = c := by rw [hA, h]; rw [h] at hc; exact add_real hc
theorem subR {a b c : Int} (h : c = a - b) (hc : -9223372036854775808 ≤ c ∧ c ≤ 9223372036854775807) : A .ar .sub .i64 a b = c := by rw [hA, h]; rw [h] at hc; exact sub_real hc
theorem mulR {a b c : Int} (h : c = a * b) (hc : -9223372036854775808 ≤ c ∧ c ≤ 9223372036854775807) : A .ar .mul .i64 a b = c := by rw [hA, h]; rw [h] at hc; exact wrap_in hc
theorem remR {a b c : Int} (h0 : 0 ≤ a) (h : c = a % b) : A .ar .rem .i64 a b = c := by
  rw [hA, h]; exact Int.tmod_eq_emod_of_nonneg h0
theorem quoR {a b c : Int} (h0 : 0 ≤ a) (h : c = a / b) (hc : -9223372036854775808 ≤ c ∧ c ≤ 9223372036854775807) : A .ar .quo .i64 a b = c := by
  rw [hA, h]
  show IntKind.i64.wrap (a.tdiv b) = _
  rw [Int.tdiv_eq_ediv_of_nonneg h0]
  rw [h] at hc
  exact wrap_in hc
theorem ckI {a : Int} (h : -9223372036854775808 ≤ a ∧ a ≤ 9223372036854775807) : A .ck .i64 a = a := by rw [hA]; exact wrap_in h
theorem ckU {a : Int} (h : 0 ≤ a) (h' : a < 256) : A .ck .u8 a = a := by
  rw [hA]
  show IntKind.u8.wrap a = a
  simp [IntKind.wrap, IntKind.min, IntKind.max, IntKind.signed, IntKind.bits]
  omega
theorem nzR {a : Int} (h : a ≠ 0) : A .nz a = true := by
  rw [hA]; show (a != 0) = true; simp [h]
theorem miR {a b c : Int} (h : c = min a b) : A .mi a b = c := by
  rw [hA, h]; show (if b < a then b else a) = _; split <;> omega
theorem mxR {a b c : Int} (h : c = max a b) : A .mx a b = c := by
  rw [hA, h]; show (if b > a then b else a) = _; split <;> omega
end nums

theorem playE {f : Nat} {vf : VFn} {vs : List FV} {bs : List Blk} {R : FV × List Blk → Prop} (n : Nat) (hT : lookT tab f = some vf) (hlen : Nat.beq (lenF vs) vf.np = true)
    (h : ∀ A call, A = real → call = play real (lookT tab) (fun _ => clonePr clones) n → wpV A call (iterN n) vf.body ⟨lenH bs, padE vf.nt vs, bs⟩ (fun ex s => ∃ r, R r ∧ finV A vf (ex, s) = some r)) :
    ∃ r, R r ∧ ∀ m, n + 1 ≤ m → play real (lookT tab) (fun _ => clonePr clones) m f vs bs = some r := by
  obtain ⟨ex, s, h1, r, hr, h2⟩ := h real _ rfl rfl
  have h0 : play real (lookT tab) (fun _ => clonePr clones) (n + 1) f vs bs = some r := by
    simp only [play, hT, bodyV, hlen, cond_true, h1, Option.bind_some]; exact h2
  exact ⟨r, hr, fun m hm => play_mono pr_mono hm _ _ _ _ h0⟩
abbrev Pn (n f : Nat) (vs : List FV) (bs : List Blk) (v : FV) (os : List Blk) : Prop := ∀ m, n ≤ m → play real (lookT tab) (fun _ => clonePr clones) m f vs bs = some (v, os)
theorem playN {f : Nat} {vf : VFn} {vs : List FV} {bs : List Blk} {v : FV} {os : List Blk} (n : Nat) (hT : lookT tab f = some vf) (hlen : Nat.beq (lenF vs) vf.np = true)
    (h : ∀ A call, A = real → call = play real (lookT tab) (fun _ => clonePr clones) n → wpV A call (iterN n) vf.body ⟨lenH bs, padE vf.nt vs, bs⟩ (finQ A vf (v, os))) : Pn (n + 1) f vs bs v os := by
  obtain ⟨ex, s, h1, h2⟩ := h real _ rfl rfl
  have h0 : play real (lookT tab) (fun _ => clonePr clones) (n + 1) f vs bs = some (v, os) := by
    simp only [play, hT, bodyV, hlen, cond_true, h1, Option.bind_some]; exact h2
  exact fun m hm => play_mono pr_mono hm _ _ _ _ h0
/-! ### The order by remainders -/
def ky (a : Int) : Int := a % 10
theorem p44 (a : Int) (ha : -9223372036854775808 ≤ a ∧ a ≤ 9223372036854775807) : Pn 2 44 [i64 a] [] (i64 (ky a)) [] := by
  refine playN 1 rfl rfl fun A call hA hcall => ?_
  obtain ⟨r, hr⟩ : ∃ r, r = a.tmod 10 := ⟨_, rfl⟩
  obtain ⟨k, hk⟩ : ∃ k, k = ky a := ⟨_, rfl⟩
  rw [← hk]
  have hb : -10 < r ∧ r < 10 := by
    have h1 := Int.tmod_lt_of_pos a (b := 10) (by omega)
    have h2 := Int.lt_tmod_of_pos a (b := 10) (by omega)
    omega
  have h1 : A .ar .rem .i64 a 10 = r := by rw [hA, hr]; rfl
  obtain ⟨t, ht⟩ : ∃ t, t = r + 10 := ⟨_, rfl⟩
  have h2 := addR hA ht (by omega)
  have h3 : A .ar .rem .i64 t 10 = k := by
    refine remR hA (by omega) ?_
    rw [hk, ky, ht, hr]
    rcases Int.le_total 0 a with h0 | h0
    · rw [Int.tmod_eq_emod_of_nonneg h0]; omega
    · obtain ⟨b, hb'⟩ : ∃ b, a = -b := ⟨-a, by omega⟩
      rw [hb', Int.neg_tmod, Int.tmod_eq_emod_of_nonneg (by omega)]; omega
  have h4 := nzR hA (a := 10) (by decide)
  apply wpV_seq; refine wpV_of (by ((conv => lhs; cbv); (try (with_reducible rfl)))) ?_
  (refine wpV_of (by ((conv => lhs; cbv); (repeat ((first | rewrite [h4] | rewrite [h1] | rewrite [h2] | rewrite [h3]); (try (conv => lhs; cbv)))); (try (with_reducible rfl)))) ?_; (show finV _ _ _ = some _; ((conv => lhs; cbv); (repeat ((first | rewrite [h4] | rewrite [h1] | rewrite [h2] | rewrite [h3]); (try (conv => lhs; cbv)))); (try (with_reducible rfl))); (try rfl)))
def inR (a : Int) : Prop := -9223372036854775808 ≤ a ∧ a ≤ 9223372036854775807
theorem p12 {a b : Int} (ha : inR a) (hb : inR b) : Pn 4 12 [i64 a, i64 b] [] (bl (decide (ky a < ky b))) [] := by
  refine playN 3 rfl rfl fun A call hA hcall => ?_
  have h1 := p44 a ha 3 (by omega)
  have h2 := p44 b hb 3 (by omega)
  rw [← hcall] at h1 h2
  have h3 : A .cmp .lss (ky a) (ky b) = decide (ky a < ky b) := by rw [hA, lss_real]
  generalize ky a = x at *
  generalize ky b = y at *
  generalize decide (x < y) = t at *
  apply wpV_seq; refine wpV_of (by ((conv => lhs; cbv); (try (with_reducible rfl)))) ?_
  (refine wpV_of (by ((conv => lhs; cbv); (repeat ((first | rewrite [h1] | rewrite [h2] | rewrite [h3]); (try (conv => lhs; cbv)))); (try (with_reducible rfl)))) ?_; (show finV _ _ _ = some _; ((conv => lhs; cbv); (repeat ((first | rewrite [h1] | rewrite [h2] | rewrite [h3]); (try (conv => lhs; cbv)))); (try (with_reducible rfl))); (try rfl)))
/-- The first one first. -/
def ltB (a b : Int) : Bool := decide (ky a < ky b)
theorem ltB_sw : SW ltB := ⟨fun x => by simp [ltB], fun x y z h1 h2 => by simp only [ltB, decide_eq_true_eq] at *; omega, fun x y z h1 h2 => by simp only [ltB, decide_eq_false_iff_not] at *; omega⟩
theorem pL {a b : Int} (ha : inR a) (hb : inR b) : Pn 4 12 [i64 a, i64 b] [] (bl (ltB a b)) [] := p12 ha hb
/-! ### A heap of numbers -/
def e1 (x : Int) : List IV := [.int .i64 x]
abbrev hbk (n : Nat) (g : Bool) (es : List (List IV)) : List Blk := [.var false [.slo 1 0 n, .iv (.fn 12)], .arr false g 1 es]
theorem p63 (n : Nat) (es : List (List IV)) : Pn 2 63 [.one (.ptr 0 0)] (hbk n false es) (bl true) (hbk n false es) := by
  refine playN 1 rfl rfl fun A call hA hcall => ?_
  apply wpV_seq; refine wpV_of (by ((conv => lhs; cbv); (try (with_reducible rfl)))) ?_
  (refine wpV_of (by ((conv => lhs; cbv); (try (with_reducible rfl)))) ?_; (show finV _ _ _ = some _; ((conv => lhs; cbv); (try (with_reducible rfl))); (try rfl)))
theorem p40 (n : Nat) (es : List (List IV)) : Pn 2 40 [.one (.ptr 0 0)] (hbk n false es) (i64 n) (hbk n false es) := by
  refine playN 1 rfl rfl fun A call hA hcall => ?_
  obtain ⟨N, hN⟩ : ∃ N : Int, N = n := ⟨_, rfl⟩
  have h1 : A .ofN n = N := by rw [hA, hN]; rfl
  rw [← hN]
  apply wpV_seq; refine wpV_of (by ((conv => lhs; cbv); (try (with_reducible rfl)))) ?_
  apply wpV_seq; refine wpV_of (by ((conv => lhs; cbv); (try (with_reducible rfl)))) ?_
  (refine wpV_of (by ((conv => lhs; cbv); (repeat ((first | rewrite [h1]); (try (conv => lhs; cbv)))); (try (with_reducible rfl)))) ?_; (show finV _ _ _ = some _; ((conv => lhs; cbv); (repeat ((first | rewrite [h1]); (try (conv => lhs; cbv)))); (try (with_reducible rfl))); (try rfl)))
section
variable {A : Ar} (hA : A = real)
include hA
theorem atR {x : Int} {i n : Nat} (hx : x = i) (h : i < n) : A .at_ x n = some i := by rw [hA, hx, real_at]; simp [rIdx, h]
theorem getNR {c : List Int} {zs : List (List IV)} {i : Nat} (h : i < c.length) : A .getN (c.map e1 ++ zs) i = some (e1 c[i]) := by
  rw [hA, real_getN, List.getElem?_append_left (by simpa using h)]; simp [h]
theorem setR {c : List Int} {zs : List (List IV)} {i : Nat} (h : i < c.length) (x : Int) : A .set (c.map e1 ++ zs) i 0 (e1 x) = some ((c.set i x).map e1 ++ zs) := by
  rw [hA, real_set]
  have h1 : (c.map e1 ++ zs)[i]? = some (e1 c[i]) := by rw [List.getElem?_append_left (by simpa using h)]; simp [h]
  have h2 : (c.map e1 ++ zs).set i (e1 x) = (c.set i x).map e1 ++ zs := by rw [List.set_append_left _ _ (by simpa using h), List.map_set]
  simp only [rSet, h1]
  rw [← h2]
  rfl
theorem ofNR {x : Int} {n : Nat} (h : x = n) : A .ofN n = x := by rw [hA, h]; rfl
end
theorem inR_mem {c d : List Int} (h : ∀ x, x ∈ c → inR x) (p : d.Perm c) : ∀ x, x ∈ d → inR x := fun x hx => h x (p.mem_iff.1 hx)
/-- Push. -/
theorem p38 (c : List Int) (zs : List (List IV)) (x : Int) (hc : Heap ltB c) (hl : c.length ≤ 1000) (hin : ∀ y, y ∈ c → inR y) (hx : inR x) :
    ∃ r, (∃ c' zs' g, Heap ltB c' ∧ c'.Perm (x :: c) ∧ r = ((.tup [] : FV), hbk (c.length + 1) g (c'.map e1 ++ zs'))) ∧ ∀ m, 1101 ≤ m → play real (lookT tab) (fun _ => clonePr clones) m 38 [.one (.ptr 0 0), i64 x] (hbk c.length false (c.map e1 ++ zs)) = some r := by
  refine playE 1100 (vf := v38) rfl rfl fun A call hA hcall => ?_
  have k63 := p63 c.length (c.map e1 ++ zs) 1100 (by omega)
  have k49 : ∀ a b, inR a → inR b → call 12 [i64 a, i64 b] [] = some (bl (ltB a b), []) := fun a b ha hb => by rw [hcall]; exact pL ha hb 1100 (by omega)
  rw [← hcall] at k63
  obtain ⟨ar, har⟩ : ∃ ar : List Int → List (List IV) → List (List IV), ∀ c zs, ar c zs = c.map e1 ++ zs := ⟨_, fun _ _ => rfl⟩
  -- behind the append
  have happ : ∃ t zs', A .apo 8 0 c.length (c.map e1 ++ zs) [e1 x] = some (t, ar (c ++ [x]) zs') ∧ (t = true → zs' = []) := by
    simp only [har]
    rw [hA, real_apo]
    cases zs with
    | nil =>
      refine ⟨true, [], ?_, fun _ => rfl⟩
      have : (c.length + 1) * 8 ≤ room := by unfold room; omega
      simp [rApo, this]
    | cons z r =>
      refine ⟨false, r, ?_, fun h => by cases h⟩
      have h1 : ¬ (0 + c.length = (c.map e1 ++ z :: r).length) := by simp
      have h2 : 0 + c.length + [e1 x].length ≤ (c.map e1 ++ z :: r).length := by simp
      simp only [rApo, if_neg h1, if_pos h2, rOver]
      simp [List.take_append, List.drop_append]
  obtain ⟨t, zs', happ, hzs⟩ := happ
  obtain ⟨d, hd⟩ : ∃ d, d = c ++ [x] := ⟨_, rfl⟩
  have hdl : d.length = c.length + 1 := by rw [hd]; simp
  have hup : UpH ltB d c.length := by rw [hd]; exact up_init hc x
  have hdp : d.Perm (x :: c) := by rw [hd]; exact List.perm_append_comm
  have hdin : ∀ y, y ∈ d → inR y := fun y hy => by
    have := hdp.mem_iff.1 hy
    rcases List.mem_cons.1 this with rfl | h
    · exact hx
    · exact hin y h
  rw [← hd] at happ
  obtain ⟨n, hn⟩ : ∃ n, n = c.length := ⟨_, rfl⟩
  have hln : t = true → A .ln (ar d zs') = n + 1 := fun h => by rw [hA, real_ln, har, hzs h]; simp [hdl, hn]
  have had : A .addN n (A .ln [e1 x]) = n + 1 := by rw [hA]; rfl
  rw [← hn] at k63 happ hup hdl ⊢
  obtain ⟨n1, hn1⟩ : ∃ n1, n1 = n + 1 := ⟨_, rfl⟩
  rw [← hn1] at hln had hdl ⊢
  have o1 := ofNR hA (x := (n1 : Int)) rfl
  obtain ⟨N1, hN1⟩ : ∃ N1 : Int, N1 = n1 := ⟨_, rfl⟩
  rw [← hN1] at o1
  obtain ⟨I0, hI0⟩ : ∃ I0 : Int, I0 = N1 - 1 := ⟨_, rfl⟩
  have s1 := subR hA hI0 (by omega)
  obtain ⟨es, hes⟩ : ∃ es, es = c.map e1 ++ zs := ⟨_, rfl⟩
  rw [← hes] at k63 happ ⊢
  clear hes hc
  have tail : ∀ g st0, headV false [0, 4] st0 = some ⟨2, (.one (.ptr 0 0) :: u :: u :: u :: i64 I0 :: u :: u :: u :: u :: u :: u :: u :: u :: u :: u :: u :: u :: u :: u :: u :: u :: u :: u :: u :: u :: u :: u :: u :: u :: u :: u :: u :: u :: u :: u :: u :: u :: u :: u :: u :: u :: u :: u :: u :: u :: u :: u :: u :: u :: u :: u :: u :: u :: u :: u :: u :: u :: u :: u :: u :: u :: u :: u :: u :: u :: u :: u :: u :: u :: u :: u :: u :: u :: u :: u :: u :: u :: []), hbk n1 g (ar d zs')⟩ → wpV A call (iterN 1100) (.block 0 (.loop false [0, 4] l38_0)) st0 (fun ex s => ∃ r, (∃ c' zs' g, Heap ltB c' ∧ c'.Perm (x :: c) ∧ r = ((.tup [] : FV), hbk n1 g (c'.map e1 ++ zs'))) ∧ finV A v38 (ex, s) = some r) := by
    intro g st0 hst0
    apply wpV_block
    refine wpV_loop n1 (fun j st => ∃ d i I, (UpH ltB d i ∧ i + j ≤ n ∧ d.length = n1 ∧ d.Perm (x :: c) ∧ (∀ y, y ∈ d → inR y) ∧ I = (i : Int)) ∧ st = ⟨2, (.one (.ptr 0 0) :: u :: u :: u :: i64 I :: u :: u :: u :: u :: u :: u :: u :: u :: u :: u :: u :: u :: u :: u :: u :: u :: u :: u :: u :: u :: u :: u :: u :: u :: u :: u :: u :: u :: u :: u :: u :: u :: u :: u :: u :: u :: u :: u :: u :: u :: u :: u :: u :: u :: u :: u :: u :: u :: u :: u :: u :: u :: u :: u :: u :: u :: u :: u :: u :: u :: u :: u :: u :: u :: u :: u :: u :: u :: u :: u :: u :: u :: []), hbk n1 g (ar d zs')⟩) (by omega) hst0 ⟨d, n, I0, ⟨hup, by omega, hdl, hdp, hdin, by omega⟩, by rfl⟩ ?_
    rintro j hj st ⟨d, i, I, ⟨hu, hij, hdl, hdp, hdin, hI⟩, rfl⟩
    by_cases hi0 : i = 0
    · have g0 := gtF hA (a := I) (b := 0) (by omega)
      refine wpV_of (by ((conv => lhs; cbv); (repeat ((first | rewrite [g0]); (try (conv => lhs; cbv)))); (try (with_reducible rfl)))) ?_
      exact ⟨((.tup [] : FV), hbk n1 g (ar d zs')), ⟨d, zs', g, up_stop hu (by omega) (.inl hi0), hdp, by rw [har]⟩, by (show finV _ _ _ = some _; ((conv => lhs; cbv); (try (with_reducible rfl))); (try rfl))⟩
    · have g0 := gtT hA (a := I) (b := 0) (by omega)
      obtain ⟨u, hu'⟩ : ∃ u, u = (i - 1) / 2 := ⟨_, rfl⟩
      obtain ⟨J, hJ⟩ : ∃ J : Int, J = I - 1 := ⟨_, rfl⟩
      obtain ⟨U, hU⟩ : ∃ U : Int, U = J / 2 := ⟨_, rfl⟩
      have s2 := subR hA hJ (by omega)
      have q2 := quoR hA (a := J) (b := 2) (by omega) hU (by omega)
      have nz := nzR hA (a := 2) (by decide)
      have hUu : U = u := by omega
      have hil : i < d.length := by omega
      have hul : u < d.length := by omega
      have a1 := atR hA (n := n1) hI (by omega)
      have a2 := atR hA (n := n1) hUu (by omega)
      have g1 := getNR hA (zs := zs') hil
      have g2 := getNR hA (zs := zs') hul
      have w1 := setR hA (zs := zs') hil d[u]
      have w2 := setR hA (c := d.set i d[u]) (zs := zs') (i := u) (by simpa using hul) d[i]
      have kl := k49 d[i] d[u] (hdin _ (List.getElem_mem hil)) (hdin _ (List.getElem_mem hul))
      have hstep : ltB d[i] d[u] = true → UpH ltB (swp d i u hil hul) u := fun h => by
        have := up_step ltB_sw hu hil (by omega) (by simpa only [hu'] using h)
        simpa only [← hu'] using this
      have hstop : ltB d[i] d[u] = false → Heap ltB d := fun h => up_stop hu hil (.inr ⟨by omega, by simpa only [hu'] using h⟩)
      have hsp := swp_perm d i u hil hul
      rw [show (d.set i d[u]).set u d[i] = swp d i u hil hul from rfl] at w2
      have hsl := swp_len d i u hil hul
      have hdin' := inR_mem hdin hsp
      generalize swp d i u hil hul = d2 at *
      rw [← har] at g1 g2 w1 w2
      rw [← har] at w1 w2
      generalize ar (d.set i d[u]) zs' = es2 at *
      generalize ltB d[i] d[u] = tl at *
      generalize d[i] = xi at *
      generalize d[u] = xu at *
      generalize hE : ar d zs' = E at *
      generalize hE2 : ar d2 zs' = E2 at *
      dsimp only [e1] at g1 g2 w1 w2
      apply wpV_seq; refine wpV_of (by ((conv => lhs; cbv); (repeat ((first | rewrite [g0]); (try (conv => lhs; cbv)))); (try (with_reducible rfl)))) ?_
      cases tl with
      | false =>
        refine wpV_of (by ((conv => lhs; cbv); (repeat ((first | rewrite [s2] | rewrite [nz] | rewrite [q2] | rewrite [a1] | rewrite [g1] | rewrite [a2] | rewrite [g2] | rewrite [kl]); (try (conv => lhs; cbv)))); (try (with_reducible rfl)))) ?_
        exact ⟨((.tup [] : FV), hbk n1 g E), ⟨d, zs', g, hstop rfl, hdp, by rw [← hE, har]⟩, by (show finV _ _ _ = some _; ((conv => lhs; cbv); (try (with_reducible rfl))); (try rfl))⟩
      | true =>
        refine wpV_of (by ((conv => lhs; cbv); (repeat ((first | rewrite [s2] | rewrite [nz] | rewrite [q2] | rewrite [a1] | rewrite [g1] | rewrite [a2] | rewrite [g2] | rewrite [kl] | rewrite [w1] | rewrite [w2]); (try (conv => lhs; cbv)))); (try (with_reducible rfl)))) ?_
        refine headQ_of (by ((conv => lhs; cbv); (try (with_reducible rfl)))) ?_
        exact ⟨by omega, d2, u, U, ⟨hstep rfl, by omega, by omega, hsp.trans hdp, hdin', hUu⟩, by rw [hE2]⟩
  apply wpV_seq; refine wpV_of (by ((conv => lhs; cbv); (repeat ((first | rewrite [k63]); (try (conv => lhs; cbv)))); (try (with_reducible rfl)))) ?_
  dsimp only [e1] at happ had
  cases t with
  | true =>
    have hln := hln rfl
    apply wpV_seq; refine wpV_of (by ((conv => lhs; cbv); (repeat ((first | rewrite [happ] | rewrite [hln]); (try (conv => lhs; cbv)))); (try (with_reducible rfl)))) ?_
    apply wpV_seq; refine wpV_of (by ((conv => lhs; cbv); (repeat ((first | rewrite [o1] | rewrite [s1]); (try (conv => lhs; cbv)))); (try (with_reducible rfl)))) ?_
    exact tail true _ (by ((conv => lhs; cbv); (repeat ((first | rewrite [hln] | rewrite [o1] | rewrite [s1]); (try (conv => lhs; cbv)))); (try (with_reducible rfl))))
  | false =>
    apply wpV_seq; refine wpV_of (by ((conv => lhs; cbv); (repeat ((first | rewrite [happ] | rewrite [had]); (try (conv => lhs; cbv)))); (try (with_reducible rfl)))) ?_
    apply wpV_seq; refine wpV_of (by ((conv => lhs; cbv); (repeat ((first | rewrite [o1] | rewrite [s1]); (try (conv => lhs; cbv)))); (try (with_reducible rfl)))) ?_
    exact tail false _ (by ((conv => lhs; cbv); (repeat ((first | rewrite [had] | rewrite [o1] | rewrite [s1]); (try (conv => lhs; cbv)))); (try (with_reducible rfl))))
end Go.Proofs.Ytlbmknejhmmjnaa
