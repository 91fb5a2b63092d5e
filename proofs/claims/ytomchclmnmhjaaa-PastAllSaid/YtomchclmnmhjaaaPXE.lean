/- May events be gone through here? (That it answers is all that is asked.) And the example. -/
import Derived.Test.YtomchclmnmhjaaaPXD
set_option linter.unusedSimpArgs false
set_option linter.unusedVariables false
set_option maxRecDepth 100000
namespace Go.Proofs.Ytomchclmnmhjaaa
open Go GoV

def N53a (ls : List (List IV)) (len n b i : Int) : St := ⟨0, [u, u, u, i64 n, i64 b, u, u, u, u, .one (.iv (.sl true 1 ls)), i64 len, i64 i, u, u, u, u, u, u, u, u, u, u, u, u, u, u, u, u, u, u, u, u, u, u, u, u, u, u, u, u, u, u, u, u, u, u, u], []⟩
def N53b (ls es : List (List IV)) (fl : Bool) (len n b i len2 j : Int) : St := ⟨0, [u, u, u, i64 n, i64 b, u, u, u, u, .one (.iv (.sl true 1 ls)), i64 len, i64 i, u, u, u, u, u, u, u, u, u, u, .one (.iv (.sl fl 8 es)), i64 len2, i64 j, u, u, u, u, u, u, u, u, u, u, u, u, u, u, u, u, u, u, u, u, u, u], []⟩
theorem w53 (A : Ar) (call : CallT) (n m p : Nat) (hn : m < n) (hp : p < n) (ls : List (List IV)) (li : Nat → List (List IV)) (fl : Nat → Bool) (ln : Nat → Nat) (hln : ∀ i, i < p → ln i ≤ m) (ev : Nat → Nat → Ev) (ix : Nat → Int) (hi0 : ix 0 = 0)
    (g1 : ∀ i, i < p → A .cmp .lss (ix i) (A .len ls) = true) (g1' : A .cmp .lss (ix p) (A .len ls) = false) (g2 : ∀ i, i < p → A .get ls (ix i) = some [.sl (fl i) 8 (li i)])
    (h1 : ∀ i, i < p → ∀ j, j < ln i → A .cmp .lss (ix j) (A .len (li i)) = true) (h1' : ∀ i, i < p → A .cmp .lss (ix (ln i)) (A .len (li i)) = false) (h2 : ∀ i, i < p → ∀ j, j < ln i → A .get (li i) (ix j) = some (encEv (ev i j)))
    (h3 : ∀ i, i < n → A .ar .add .i64 (ix i) 1 = ix (i + 1)) :
    wpV A call (iterN n) v53.body ⟨0, padE 47 [.one (.iv (.sl true 1 ls))], []⟩ (fun ex s => ∃ r, (∃ b, r = (bl b, [])) ∧ finV A v53 (ex, s) = some r) := by
  apply wpV_seq; refine wpV_of (by ((conv => lhs; cbv); (try (with_reducible rfl)))) ?_
  apply wpV_seq; refine wpV_of (by ((conv => lhs; cbv); (try (with_reducible rfl)))) ?_
  apply wpV_seq; apply wpV_seq; refine wpV_of (by ((conv => lhs; cbv); (try (with_reducible rfl)))) ?_
  apply wpV_block
  refine wpV_loop p (fun i s => ∃ a b, s = N53a ls (A .len ls) a b (ix i)) hp (by ((conv => lhs; cbv); (try (with_reducible rfl)))) ⟨0, 0, by rw [hi0]; rfl⟩ ?_
  rintro i hi s ⟨a, b, rfl⟩
  by_cases hip : i < p
  · apply wpV_seq; refine wpV_of (by ((conv => lhs; cbv); (try (with_reducible rfl)))) ?_
    apply wpV_seq; refine wpV_of (by ((conv => lhs; cbv); (repeat ((first | rewrite [g1 i hip]); (try (conv => lhs; cbv)))); (try (with_reducible rfl)))) ?_
    apply wpV_seq; apply wpV_block
    apply wpV_seq; refine wpV_of (by ((conv => lhs; cbv); (repeat ((first | rewrite [g2 i hip]); (try (conv => lhs; cbv)))); (try (with_reducible rfl)))) ?_
    apply wpV_seq; apply wpV_seq; refine wpV_of (by ((conv => lhs; cbv); (try (with_reducible rfl)))) ?_
    apply wpV_seq; refine wpV_of (by ((conv => lhs; cbv); (try (with_reducible rfl)))) ?_
    cases hc : A .cmp .gtr (A .ar .add .i64 a (A .mi (A .len (li i)) 100)) 80 with
    | true =>
      refine wpV_of (by ((conv => lhs; cbv); (repeat ((first | rewrite [hc]); (try (conv => lhs; cbv)))); (try (with_reducible rfl)))) ?_
      exact ⟨_, ⟨false, rfl⟩, by (show finV _ _ _ = some _; ((conv => lhs; cbv); (try (with_reducible rfl))); (try rfl))⟩
    | false =>
      refine wpV_of (by ((conv => lhs; cbv); (repeat ((first | rewrite [hc]); (try (conv => lhs; cbv)))); (try (with_reducible rfl)))) ?_
      apply wpV_seq; refine wpV_of (by ((conv => lhs; cbv); (try (with_reducible rfl)))) ?_
      apply wpV_block
      refine wpV_loop m (fun j s => j ≤ ln i ∧ ∃ b, s = N53b ls (li i) (fl i) (A .len ls) (A .ar .add .i64 a (A .mi (A .len (li i)) 100)) b (ix i) (A .len (li i)) (ix j)) hn (by ((conv => lhs; cbv); (try (with_reducible rfl)))) ⟨by omega, b, by rw [hi0]; rfl⟩ ?_
      rintro j hj s ⟨hjl, c, rfl⟩
      by_cases hjm : j < ln i
      · have h2j := h2 i hip j hjm
        generalize ev i j = e at h2j
        obtain ⟨er, en, et, ek, ed, ef, ex, eb, eg⟩ := e
        dsimp only [encEv] at h2j
        have hlm := hln i hip
        cases hd : A .cmp .gtr (A .len eg) 130 with
        | true =>
          refine wpV_of (by ((conv => lhs; cbv); (repeat ((first | rewrite [h1 i hip j hjm] | rewrite [h2j] | rewrite [hd]); (try (conv => lhs; cbv)))); (try (with_reducible rfl)))) ?_
          exact ⟨_, ⟨false, rfl⟩, by (show finV _ _ _ = some _; ((conv => lhs; cbv); (try (with_reducible rfl))); (try rfl))⟩
        | false =>
          cases he : A .cmp .gtr (A .ar .add .i64 c (A .ar .add .i64 (A .mi (A .slen ed) 8192) (A .mi (A .slen ex) 8192))) 8192 with
          | true =>
            refine wpV_of (by ((conv => lhs; cbv); (repeat ((first | rewrite [h1 i hip j hjm] | rewrite [h2j] | rewrite [hd] | rewrite [he]); (try (conv => lhs; cbv)))); (try (with_reducible rfl)))) ?_
            exact ⟨_, ⟨false, rfl⟩, by (show finV _ _ _ = some _; ((conv => lhs; cbv); (try (with_reducible rfl))); (try rfl))⟩
          | false =>
            refine wpV_of (by ((conv => lhs; cbv); (repeat ((first | rewrite [h1 i hip j hjm] | rewrite [h2j] | rewrite [hd] | rewrite [he]); (try (conv => lhs; cbv)))); (try (with_reducible rfl)))) ?_
            refine headQ_of (by ((conv => lhs; cbv); (try (with_reducible rfl)))) ?_
            exact ⟨by omega, by omega, _, by rw [h3 j (by omega)]; rfl⟩
      · obtain rfl : j = ln i := by omega
        refine wpV_of (by ((conv => lhs; cbv); (repeat ((first | rewrite [h1' i hip]); (try (conv => lhs; cbv)))); (try (with_reducible rfl)))) ?_
        show wpV _ _ _ _ _ _
        refine wpV_of (by ((conv => lhs; cbv); (try (with_reducible rfl)))) ?_
        refine headQ_of (by ((conv => lhs; cbv); (try (with_reducible rfl)))) ?_
        exact ⟨hip, _, _, by rw [h3 i (by omega)]; rfl⟩
  · obtain rfl : i = p := by omega
    refine wpV_of (by ((conv => lhs; cbv); (repeat ((first | rewrite [g1']); (try (conv => lhs; cbv)))); (try (with_reducible rfl)))) ?_
    show wpV _ _ _ _ _ _
    refine wpV_of (by ((conv => lhs; cbv); (try (with_reducible rfl)))) ?_
    exact ⟨_, ⟨true, rfl⟩, by (show finV _ _ _ = some _; ((conv => lhs; cbv); (try (with_reducible rfl))); (try rfl))⟩
theorem p53 (fl : Bool) (evs : List Ev) (hl : evs.length ≤ 100000000000000000) : ∃ b, Pl 53 [.one (.iv (.sl true 1 [[.sl fl 8 (evs.map encEv)]]))] (bl b) [] := by
  have : ∃ r, (∃ b, r = (bl b, ([] : List Blk))) ∧ Plays (lookT tab) (fun _ => clonePr clones) 53 [.one (.iv (.sl true 1 [[.sl fl 8 (evs.map encEv)]]))] [] r := by
    refine Plays.wpE (vf := v53) rfl rfl ⟨evs.length + 2, fun A call hA _ => ?_⟩
    subst hA
    refine w53 real call (evs.length + 2) evs.length 1 (by omega) (by omega) [[.sl fl 8 (evs.map encEv)]] (fun _ => evs.map encEv) (fun _ => fl) (fun _ => evs.length) (fun _ _ => Nat.le_refl _) (fun _ i => evs.getD i d0) (fun i => (i : Int)) rfl
      (fun i hi => ?_) ?_ (fun i hi => ?_) (fun i _ j hj => ?_) (fun i _ => ?_) (fun i _ j hj => ?_) (fun i hi => inc_real (by omega))
    · rw [lss_real, len_real]; simp; omega
    · rw [lss_real, len_real]; simp
    · rw [get_real _ i (x := [.sl fl 8 (evs.map encEv)])]
      have : i = 0 := by omega
      subst this; rfl
    · rw [lss_real, len_real]; simpa using hj
    · rw [lss_real, len_real]; simp
    · rw [get_ev hj, getD_ev hj]
  obtain ⟨r, ⟨b, rfl⟩, h⟩ := this
  exact ⟨b, h⟩
theorem p54 : Pl 54 [] (bl true) [] := ⟨80, by kernel_rfl⟩
end Go.Proofs.Ytomchclmnmhjaaa
