/- Bytes and numbers: which vectors may be; numbers as they are. -/
import Derived.Test.YtlljgefgbglmbaaCGCode
set_option linter.unusedSimpArgs false
set_option linter.unusedVariables false
set_option maxRecDepth 100000
set_option maxHeartbeats 1000000
set_option cbv.maxSteps 10000000
namespace Go.Proofs.Ytlljgefgbglmbaa
open Go GoV

def vec (v : List Int) : List IV := v.map (.int .i64 ·)
abbrev vecF (v : List Int) : FV := .agg [.iv (.arr 64 (vec v))]
theorem getc_real {v : List Int} {r : Int} (h0 : 0 ≤ r) (h : r < v.length) : real .getc (vec v) r = some (.int .i64 (v.getD r.toNat 0)) := by
  have hl : r.toNat < v.length := by omega
  rw [real_getc, if_pos h0, vec, List.getElem?_map, List.getElem?_eq_getElem hl, List.getD_eq_getElem?_getD, List.getElem?_eq_getElem hl]
  rfl
theorem getc_nat {v : List Int} {i : Nat} (h : i < v.length) : real .getc (vec v) (i : Int) = some (.int .i64 (v.getD i 0)) := by
  rw [getc_real (by omega) (by omega)]; simp
theorem inc_real {i : Nat} (h : i ≤ 1000000000000000000) : real .ar .add .i64 (i : Int) 1 = ((i + 1 : Nat) : Int) := by
  rw [add_real (by unfold inI; omega)]; simp

theorem all_t {g : Nat → Bool} {n : Nat} (h : ∀ j, j < n → g j = false) : ((List.range n).all fun i => !(g i)) = true := by
  simp only [List.all_eq_true, List.mem_range]
  intro i hi
  rw [h i hi]; rfl
theorem all_f {g : Nat → Bool} {n i : Nat} (hi : i < n) (h : g i = true) : ((List.range n).all fun i => !(g i)) = false := by
  rw [← Bool.not_eq_true]
  intro hc
  simp only [List.all_eq_true, List.mem_range] at hc
  have := hc i hi
  rw [h] at this; cases this
def badB (n : Int) : Bool := decide (n < 0) || decide (n > 1073741824)
def goodB (a : List Int) : Bool := (List.range 64).all fun i => !(badB (a.getD i 0))
theorem w102 (A : Ar) (call : CallT) (it : IterT) (x : Int) {p q : Bool} (h1 : A .cmp .lss x 0 = p) (h2 : A .cmp .gtr x 1073741824 = q) : wpV A call it v102.body ⟨0, padE 9 [i64 x], []⟩ (finQ A v102 (bl (p || q), [])) := by
  cases p <;> cases q <;> (refine wpV_of (by ((conv => lhs; cbv); (repeat ((first | rewrite [h1] | rewrite [h2]); (try (conv => lhs; cbv)))); (try (with_reducible rfl)))) ?_; (show finV _ _ _ = some _; ((conv => lhs; cbv); (repeat ((first | rewrite [h1] | rewrite [h2]); (try (conv => lhs; cbv)))); (try (with_reducible rfl))); (try rfl)))
theorem p102 (x : Int) : Pl 102 [i64 x] (bl (badB x)) [] := Plays.wp (vf := v102) rfl rfl ⟨0, fun A call hA _ => by subst hA; exact w102 real call _ x (lss_real _ _) (gtr_real _ _)⟩
def N114 (es : List (List IV)) (g : Nat) (len i : Int) : St := ⟨0, [.one (.iv (.sl true 1 es)), .one (.iv (.fn g)), u, u, u, u, u, i64 len, i64 i, u, u, u, u, u, u, u, u, u, u], []⟩
theorem w114 (A : Ar) (call : CallT) (n : Nat) (hn : 64 < n) (es : List (List IV)) (f : Nat) (x ix : Nat → Int) (g : Nat → Bool) (hi0 : ix 0 = 0) (h1 : ∀ i, i < 64 → A .cmp .lss (ix i) (A .len es) = true) (h1' : A .cmp .lss (ix 64) (A .len es) = false)
    (h3 : ∀ i, i < 64 → A .get es (ix i) = some [.int .i64 (x i)]) (h5 : ∀ i, i < 64 → call f [i64 (x i)] [] = some (bl (g i), [])) (h7 : ∀ i, i < 64 → A .ar .add .i64 (ix i) 1 = ix (i + 1)) :
    wpV A call (iterN n) v114.body ⟨0, padE 19 [.one (.iv (.sl true 1 es)), .one (.iv (.fn f))], []⟩ (fun ex s => ∃ r, (∃ z, r = (i64 z, ([] : List Blk)) ∧ ((∃ i, i < 64 ∧ g i = true ∧ z = ix i) ∨ ((∀ i, i < 64 → g i = false) ∧ z = -1))) ∧ finV A v114 (ex, s) = some r) := by
  apply wpV_seq; refine wpV_of (by ((conv => lhs; cbv); (try (with_reducible rfl)))) ?_
  apply wpV_seq; apply wpV_seq; refine wpV_of (by ((conv => lhs; cbv); (try (with_reducible rfl)))) ?_
  apply wpV_block
  refine wpV_loop 64 (fun i s => s = N114 es f (A .len es) (ix i) ∧ ∀ j, j < i → g j = false) hn (by ((conv => lhs; cbv); (try (with_reducible rfl)))) ⟨by rw [hi0]; rfl, by omega⟩ ?_
  rintro i hi s ⟨rfl, hg⟩
  by_cases him : i < 64
  · have h5i := h5 i him
    cases hgi : g i with
    | true =>
      rw [hgi] at h5i
      refine wpV_of (by ((conv => lhs; cbv); (repeat ((first | rewrite [h1 i him] | rewrite [h3 i him] | rewrite [h5i]); (try (conv => lhs; cbv)))); (try (with_reducible rfl)))) ?_
      exact ⟨_, ⟨ix i, rfl, .inl ⟨i, him, hgi, rfl⟩⟩, by (show finV _ _ _ = some _; ((conv => lhs; cbv); (try (with_reducible rfl))); (try rfl))⟩
    | false =>
      rw [hgi] at h5i
      refine wpV_of (by ((conv => lhs; cbv); (repeat ((first | rewrite [h1 i him] | rewrite [h3 i him] | rewrite [h5i]); (try (conv => lhs; cbv)))); (try (with_reducible rfl)))) ?_
      refine headQ_of (by ((conv => lhs; cbv); (try (with_reducible rfl)))) ?_
      refine ⟨him, by rw [h7 i him]; rfl, fun j hj => ?_⟩
      rcases Nat.lt_succ_iff_lt_or_eq.1 hj with h | rfl
      · exact hg j h
      · exact hgi
  · obtain rfl : i = 64 := by omega
    refine wpV_of (by ((conv => lhs; cbv); (repeat ((first | rewrite [h1']); (try (conv => lhs; cbv)))); (try (with_reducible rfl)))) ?_
    show wpV _ _ _ _ _ _
    refine wpV_of (by ((conv => lhs; cbv); (try (with_reducible rfl)))) ?_
    exact ⟨_, ⟨-1, rfl, .inr ⟨hg, rfl⟩⟩, by (show finV _ _ _ = some _; ((conv => lhs; cbv); (try (with_reducible rfl))); (try rfl))⟩
theorem w101 (A : Ar) (call : CallT) (it : IterT) (es : List (List IV)) (f : Nat) (z : Int) {t : Bool} (h : call 114 [.one (.iv (.sl true 1 es)), .one (.iv (.fn f))] [] = some (i64 z, [])) (h1 : A .cmp .geq z 0 = t) :
    wpV A call it v101.body ⟨0, padE 9 [.one (.iv (.sl true 1 es)), .one (.iv (.fn f))], []⟩ (finQ A v101 (bl t, [])) := by
  cases t <;> (refine wpV_of (by ((conv => lhs; cbv); (repeat ((first | rewrite [h]); (try (conv => lhs; cbv)))); (try (with_reducible rfl)))) ?_; (show finV _ _ _ = some _; ((conv => lhs; cbv); (repeat ((first | rewrite [h1]); (try (conv => lhs; cbv)))); (try (with_reducible rfl))); (try rfl)))
theorem w59 (A : Ar) (call : CallT) (it : IterT) (xs : List IV) {t : Bool} (h : call 101 [.one (.iv (.sl true 1 (A .chunk 1 xs))), .one (.iv (.fn 102))] [] = some (bl t, [])) :
    wpV A call it v59.body ⟨0, padE 6 [.agg [.iv (.arr 64 xs)]], []⟩ (finQ A v59 (bl (!t), [])) := by
  cases t <;> (refine wpV_of (by ((conv => lhs; cbv); (repeat ((first | rewrite [h]); (try (conv => lhs; cbv)))); (try (with_reducible rfl)))) ?_; (show finV _ _ _ = some _; ((conv => lhs; cbv); (try (with_reducible rfl))); (try rfl)))
theorem w32 (A : Ar) (call : CallT) (it : IterT) (xs : List IV) {t : Bool} (h : call 59 [.agg [.iv (.arr 64 xs)]] [] = some (bl t, [])) :
    wpV A call it v32.body ⟨0, padE 5 [.agg [.iv (.arr 64 xs)]], []⟩ (finQ A v32 (bl t, [])) := by
  refine wpV_of (by ((conv => lhs; cbv); (repeat ((first | rewrite [h]); (try (conv => lhs; cbv)))); (try (with_reducible rfl)))) ?_
  (show finV _ _ _ = some _; ((conv => lhs; cbv); (try (with_reducible rfl))); (try rfl))
theorem p59 {a : List Int} (ha : a.length = 64) : Pl 59 [vecF a] (bl (goodB a)) [] := by
  have h114 : ∃ r, (∃ z, r = (i64 z, ([] : List Blk)) ∧ ((∃ i, i < 64 ∧ badB (a.getD i 0) = true ∧ z = (i : Int)) ∨ ((∀ i, i < 64 → badB (a.getD i 0) = false) ∧ z = -1))) ∧ Plays (lookT tab) (fun _ => clonePr clones) 114 [.one (.iv (.sl true 1 (real .chunk 1 (vec a)))), .one (.iv (.fn 102))] [] r := by
    obtain ⟨k, hk⟩ := Plays.all pr_mono (T := lookT tab) (pr := fun _ => clonePr clones) (f := 102) (vs := fun i => [i64 (a.getD i 0)]) (bs := fun _ => []) (r := fun i => (bl (badB (a.getD i 0)), [])) (m := 64) (fun i _ => p102 _)
    refine Plays.wpE (vf := v114) rfl rfl ⟨max k 65, fun A call hA hcall => ?_⟩
    subst hA; subst hcall
    have hch : real .chunk 1 (vec a) = a.map fun x => [.int .i64 x] := by rw [real_chunk]; simp [vec]
    rw [hch]
    exact w114 real _ (max k 65) (by omega) _ 102 (fun i => a.getD i 0) (fun i => (i : Int)) (fun i => badB (a.getD i 0)) rfl (fun i hi => by rw [lss_real, real_len]; simp; omega) (by rw [lss_real, real_len]; simp; omega)
      (fun i hi => get_real _ i (by simp [show i < a.length by omega])) (fun i hi => hk _ (by omega) i hi) (fun i hi => inc_real (by omega))
  obtain ⟨r, ⟨z, rfl, hz⟩, h114⟩ := h114
  have hgb : (!(decide (z ≥ 0))) = goodB a := by
    rcases hz with ⟨i, hi, hb, rfl⟩ | ⟨hb, rfl⟩
    · rw [goodB, all_f (g := fun i => badB (a.getD i 0)) hi hb]
      simp
    · rw [goodB, all_t (g := fun i => badB (a.getD i 0)) hb]
      simp
  have h101 : Pl 101 [.one (.iv (.sl true 1 (real .chunk 1 (vec a)))), .one (.iv (.fn 102))] (bl (decide (z ≥ 0))) [] := by
    obtain ⟨n, h⟩ := h114
    exact Plays.wp (vf := v101) rfl rfl ⟨n, fun A call hA hcall => by subst hA; subst hcall; exact w101 real _ _ _ 102 z h (geq_real _ _)⟩
  have h59 : Pl 59 [vecF a] (bl (!(decide (z ≥ 0)))) [] := by
    obtain ⟨n, h⟩ := h101
    exact Plays.wp (vf := v59) rfl rfl ⟨n, fun A call hA hcall => by subst hA; subst hcall; exact w59 real _ _ _ h⟩
  rw [hgb] at h59
  exact h59
theorem p32 {a : List Int} (ha : a.length = 64) : Pl 32 [vecF a] (bl (goodB a)) [] := by
  obtain ⟨n, h⟩ := p59 ha
  exact Plays.wp (vf := v32) rfl rfl ⟨n, fun A call hA hcall => by subst hA; subst hcall; exact w32 real _ _ _ h⟩
section nums
variable {A : Ar} (hA : A = real)
include hA
theorem ltT {a b : Int} (h : a < b) : A .cmp .lss a b = true := by rw [hA, lss_real]; exact decide_eq_true h
theorem ltF {a b : Int} (h : b ≤ a) : A .cmp .lss a b = false := by rw [hA, lss_real]; exact decide_eq_false (by omega)
theorem leT {a b : Int} (h : a ≤ b) : A .cmp .leq a b = true := by rw [hA, leq_real]; exact decide_eq_true h
theorem leF {a b : Int} (h : b < a) : A .cmp .leq a b = false := by rw [hA, leq_real]; exact decide_eq_false (by omega)
theorem gtT {a b : Int} (h : b < a) : A .cmp .gtr a b = true := by rw [hA, gtr_real]; exact decide_eq_true h
theorem gtF {a b : Int} (h : a ≤ b) : A .cmp .gtr a b = false := by rw [hA, gtr_real]; exact decide_eq_false (by omega)
theorem geT {a b : Int} (h : b ≤ a) : A .cmp .geq a b = true := by rw [hA, geq_real]; exact decide_eq_true h
theorem geF {a b : Int} (h : a < b) : A .cmp .geq a b = false := by rw [hA, geq_real]; exact decide_eq_false (by omega)
theorem eqT {a b : Int} (h : a = b) : A .cmp .eql a b = true := by rw [hA, eql_real]; exact decide_eq_true h
theorem eqF {a b : Int} (h : a ≠ b) : A .cmp .eql a b = false := by rw [hA, eql_real]; exact decide_eq_false h
theorem neT {a b : Int} (h : a ≠ b) : A .cmp .neq a b = true := by rw [hA, neq_real]; exact decide_eq_true h
theorem neF {a b : Int} (h : a = b) : A .cmp .neq a b = false := by rw [hA, neq_real]; exact decide_eq_false (by simp [h])
theorem addR {a b c : Int} (h : c = a + b) (hc : -9223372036854775808 ≤ c ∧ c ≤ 9223372036854775807) : A .ar .add .i64 a b = c := by rw [hA, h]; rw [h] at hc; exact add_real hc
theorem subR {a b c : Int} (h : c = a - b) (hc : -9223372036854775808 ≤ c ∧ c ≤ 9223372036854775807) : A .ar .sub .i64 a b = c := by rw [hA, h]; rw [h] at hc; exact sub_real hc
theorem mulR {a b c : Int} (h : c = a * b) (hc : -9223372036854775808 ≤ c ∧ c ≤ 9223372036854775807) : A .ar .mul .i64 a b = c := by rw [hA, h]; rw [h] at hc; exact wrap_in hc
theorem remR {a b c : Int} (h0 : 0 ≤ a) (h : c = a % b) : A .ar .rem .i64 a b = c := by
  rw [hA, h]; exact Int.tmod_eq_emod_of_nonneg h0
theorem quoR {a b c : Int} (h0 : 0 ≤ a) (h : c = a / b) (hc : -9223372036854775808 ≤ c ∧ c ≤ 9223372036854775807) : A .ar .quo .i64 a b = c := by
  rw [hA, h]
  show IntKind.i64.wrap (a.tdiv b) = _
  rw [Int.tdiv_eq_ediv_of_nonneg h0]
  rw [h] at hc
  exact wrap_in hc
theorem ckI {a : Int} (h : -9223372036854775808 ≤ a ∧ a ≤ 9223372036854775807) : A .ck .i64 a = a := by rw [hA]; exact wrap_in h
theorem ckU {a : Int} (h : 0 ≤ a) (h' : a < 256) : A .ck .u8 a = a := by
  rw [hA]
  show IntKind.u8.wrap a = a
  simp [IntKind.wrap, IntKind.min, IntKind.max, IntKind.signed, IntKind.bits]
  omega
theorem nzR {a : Int} (h : a ≠ 0) : A .nz a = true := by
  rw [hA]; show (a != 0) = true; simp [h]
theorem miR {a b c : Int} (h : c = min a b) : A .mi a b = c := by
  rw [hA, h]; show (if b < a then b else a) = _; split <;> omega
theorem mxR {a b c : Int} (h : c = max a b) : A .mx a b = c := by
  rw [hA, h]; show (if b > a then b else a) = _; split <;> omega
end nums

abbrev Pn (n f : Nat) (vs : List FV) (bs : List Blk) (v : FV) (os : List Blk) : Prop := ∀ m, n ≤ m → play real (lookT tab) (fun _ => clonePr clones) m f vs bs = some (v, os)
theorem playN {f : Nat} {vf : VFn} {vs : List FV} {bs : List Blk} {v : FV} {os : List Blk} (n : Nat) (hT : lookT tab f = some vf) (hlen : Nat.beq (lenF vs) vf.np = true)
    (h : ∀ A call, A = real → call = play real (lookT tab) (fun _ => clonePr clones) n → wpV A call (iterN n) vf.body ⟨lenH bs, padE vf.nt vs, bs⟩ (finQ A vf (v, os))) : Pn (n + 1) f vs bs v os := by
  obtain ⟨ex, s, h1, h2⟩ := h real _ rfl rfl
  have h0 : play real (lookT tab) (fun _ => clonePr clones) (n + 1) f vs bs = some (v, os) := by
    simp only [play, hT, bodyV, hlen, cond_true, h1, Option.bind_some]; exact h2
  exact fun m hm => play_mono pr_mono hm _ _ _ _ h0
end Go.Proofs.Ytlljgefgbglmbaa
