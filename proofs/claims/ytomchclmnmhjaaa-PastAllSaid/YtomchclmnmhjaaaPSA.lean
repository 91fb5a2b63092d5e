/- Going through two lists: how many events there are at most. What one lacks. -/
import Derived.Test.YtomchclmnmhjaaaPXT
set_option linter.unusedSimpArgs false
set_option linter.unusedVariables false
set_option maxRecDepth 100000
set_option maxHeartbeats 1000000
namespace Go.Proofs.Ytomchclmnmhjaaa
open Go GoV

theorem w53x (A : Ar) (call : CallT) (n m p : Nat) (hn : m < n) (hp : p < n) (ls : List (List IV)) (li : Nat → List (List IV)) (fl : Nat → Bool) (ln : Nat → Nat) (hln : ∀ i, i < p → ln i ≤ m) (ev : Nat → Nat → Ev) (ix acc : Nat → Int) (hi0 : ix 0 = 0) (ha0 : acc 0 = 0)
    (g1 : ∀ i, i < p → A .cmp .lss (ix i) (A .len ls) = true) (g1' : A .cmp .lss (ix p) (A .len ls) = false) (g2 : ∀ i, i < p → A .get ls (ix i) = some [.sl (fl i) 8 (li i)])
    (h1 : ∀ i, i < p → ∀ j, j < ln i → A .cmp .lss (ix j) (A .len (li i)) = true) (h1' : ∀ i, i < p → A .cmp .lss (ix (ln i)) (A .len (li i)) = false) (h2 : ∀ i, i < p → ∀ j, j < ln i → A .get (li i) (ix j) = some (encEv (ev i j)))
    (h3 : ∀ i, i < n → A .ar .add .i64 (ix i) 1 = ix (i + 1)) (ha : ∀ i, i < p → A .ar .add .i64 (acc i) (A .mi (A .len (li i)) 100) = acc (i + 1)) :
    wpV A call (iterN n) v53.body ⟨0, padE 47 [.one (.iv (.sl true 1 ls))], []⟩ (fun ex s => ∃ r, (∃ b : Bool, (b = true → ∀ i, i < p → A .cmp .gtr (acc (i + 1)) 80 = false) ∧ r = (bl b, ([] : List Blk))) ∧ finV A v53 (ex, s) = some r) := by
  apply wpV_seq; refine wpV_of (by ((conv => lhs; cbv); (try (with_reducible rfl)))) ?_
  apply wpV_seq; refine wpV_of (by ((conv => lhs; cbv); (try (with_reducible rfl)))) ?_
  apply wpV_seq; apply wpV_seq; refine wpV_of (by ((conv => lhs; cbv); (try (with_reducible rfl)))) ?_
  apply wpV_block
  refine wpV_loop p (fun i s => (∀ j, j < i → A .cmp .gtr (acc (j + 1)) 80 = false) ∧ ∃ b, s = N53a ls (A .len ls) (acc i) b (ix i)) hp (by ((conv => lhs; cbv); (try (with_reducible rfl)))) ⟨fun j hj => by omega, 0, by rw [hi0, ha0]; rfl⟩ ?_
  rintro i hi s ⟨hall, b, rfl⟩
  by_cases hip : i < p
  · apply wpV_seq; refine wpV_of (by ((conv => lhs; cbv); (try (with_reducible rfl)))) ?_
    apply wpV_seq; refine wpV_of (by ((conv => lhs; cbv); (repeat ((first | rewrite [g1 i hip]); (try (conv => lhs; cbv)))); (try (with_reducible rfl)))) ?_
    apply wpV_seq; apply wpV_block
    apply wpV_seq; refine wpV_of (by ((conv => lhs; cbv); (repeat ((first | rewrite [g2 i hip]); (try (conv => lhs; cbv)))); (try (with_reducible rfl)))) ?_
    apply wpV_seq; apply wpV_seq; refine wpV_of (by ((conv => lhs; cbv); (try (with_reducible rfl)))) ?_
    apply wpV_seq; refine wpV_of (by ((conv => lhs; cbv); (try (with_reducible rfl)))) ?_
    rw [ha i hip]
    cases hc : A .cmp .gtr (acc (i + 1)) 80 with
    | true =>
      refine wpV_of (by ((conv => lhs; cbv); (repeat ((first | rewrite [hc]); (try (conv => lhs; cbv)))); (try (with_reducible rfl)))) ?_
      exact ⟨_, ⟨false, by simp, rfl⟩, by (show finV _ _ _ = some _; ((conv => lhs; cbv); (try (with_reducible rfl))); (try rfl))⟩
    | false =>
      refine wpV_of (by ((conv => lhs; cbv); (repeat ((first | rewrite [hc]); (try (conv => lhs; cbv)))); (try (with_reducible rfl)))) ?_
      apply wpV_seq; refine wpV_of (by ((conv => lhs; cbv); (try (with_reducible rfl)))) ?_
      apply wpV_block
      refine wpV_loop m (fun j s => j ≤ ln i ∧ ∃ b, s = N53b ls (li i) (fl i) (A .len ls) (acc (i + 1)) b (ix i) (A .len (li i)) (ix j)) hn (by ((conv => lhs; cbv); (try (with_reducible rfl)))) ⟨by omega, b, by rw [hi0]; rfl⟩ ?_
      rintro j hj s ⟨hjl, c, rfl⟩
      by_cases hjm : j < ln i
      · have h2j := h2 i hip j hjm
        generalize ev i j = e at h2j
        obtain ⟨er, en, et, ek, ed, ef, ex, eb, eg⟩ := e
        dsimp only [encEv] at h2j
        have hlm := hln i hip
        cases hd : A .cmp .gtr (A .len eg) 130 with
        | true =>
          refine wpV_of (by ((conv => lhs; cbv); (repeat ((first | rewrite [h1 i hip j hjm] | rewrite [h2j] | rewrite [hd]); (try (conv => lhs; cbv)))); (try (with_reducible rfl)))) ?_
          exact ⟨_, ⟨false, by simp, rfl⟩, by (show finV _ _ _ = some _; ((conv => lhs; cbv); (try (with_reducible rfl))); (try rfl))⟩
        | false =>
          cases he : A .cmp .gtr (A .ar .add .i64 c (A .ar .add .i64 (A .mi (A .slen ed) 8192) (A .mi (A .slen ex) 8192))) 8192 with
          | true =>
            refine wpV_of (by ((conv => lhs; cbv); (repeat ((first | rewrite [h1 i hip j hjm] | rewrite [h2j] | rewrite [hd] | rewrite [he]); (try (conv => lhs; cbv)))); (try (with_reducible rfl)))) ?_
            exact ⟨_, ⟨false, by simp, rfl⟩, by (show finV _ _ _ = some _; ((conv => lhs; cbv); (try (with_reducible rfl))); (try rfl))⟩
          | false =>
            refine wpV_of (by ((conv => lhs; cbv); (repeat ((first | rewrite [h1 i hip j hjm] | rewrite [h2j] | rewrite [hd] | rewrite [he]); (try (conv => lhs; cbv)))); (try (with_reducible rfl)))) ?_
            refine headQ_of (by ((conv => lhs; cbv); (try (with_reducible rfl)))) ?_
            exact ⟨by omega, by omega, _, by rw [h3 j (by omega)]; rfl⟩
      · obtain rfl : j = ln i := by omega
        refine wpV_of (by ((conv => lhs; cbv); (repeat ((first | rewrite [h1' i hip]); (try (conv => lhs; cbv)))); (try (with_reducible rfl)))) ?_
        show wpV _ _ _ _ _ _
        refine wpV_of (by ((conv => lhs; cbv); (try (with_reducible rfl)))) ?_
        refine headQ_of (by ((conv => lhs; cbv); (try (with_reducible rfl)))) ?_
        refine ⟨hip, fun j hj => ?_, _, by rw [h3 i (by omega)]; rfl⟩
        rcases Nat.lt_succ_iff_lt_or_eq.1 hj with h | rfl
        · exact hall j h
        · exact hc
  · obtain rfl : i = p := by omega
    refine wpV_of (by ((conv => lhs; cbv); (repeat ((first | rewrite [g1']); (try (conv => lhs; cbv)))); (try (with_reducible rfl)))) ?_
    show wpV _ _ _ _ _ _
    refine wpV_of (by ((conv => lhs; cbv); (try (with_reducible rfl)))) ?_
    exact ⟨_, ⟨true, fun _ => hall, rfl⟩, by (show finV _ _ _ = some _; ((conv => lhs; cbv); (try (with_reducible rfl))); (try rfl))⟩
theorem p53c (f1 f2 : Bool) (l k : List Ev) (hl : l.length ≤ 100000000000000000) (hk : k.length ≤ 100000000000000000) : ∃ b : Bool, (b = true → l.length ≤ 80 ∧ k.length ≤ 80) ∧ Pl 53 [.one (.iv (.sl true 1 [[.sl f1 8 (l.map encEv)], [.sl f2 8 (k.map encEv)]]))] (bl b) [] := by
  have : ∃ r, (∃ b : Bool, (b = true → l.length ≤ 80 ∧ k.length ≤ 80) ∧ r = (bl b, ([] : List Blk))) ∧ Plays (lookT tab) (fun _ => clonePr clones) 53 [.one (.iv (.sl true 1 [[.sl f1 8 (l.map encEv)], [.sl f2 8 (k.map encEv)]]))] [] r := by
    refine Plays.wpE (vf := v53) rfl rfl ⟨l.length + k.length + 3, fun A call hA _ => ?_⟩
    subst hA
    have c2 : ∀ i, i < 2 → i = 0 ∨ i = 1 := fun i h => by omega
    obtain ⟨acc, hacc⟩ : ∃ acc : Nat → Int, acc = fun i => if i = 0 then 0 else if i = 1 then min (l.length : Int) 100 else min (l.length : Int) 100 + min (k.length : Int) 100 := ⟨_, rfl⟩
    refine wpV_mono (w53x real call (l.length + k.length + 3) (l.length + k.length) 2 (by omega) (by omega) [[.sl f1 8 (l.map encEv)], [.sl f2 8 (k.map encEv)]] (fun i => if i = 0 then l.map encEv else k.map encEv) (fun i => if i = 0 then f1 else f2) (fun i => if i = 0 then l.length else k.length) (fun i hi => ?_)
      (fun i j => if i = 0 then l.getD j d0 else k.getD j d0) (fun i => (i : Int)) acc rfl (by rw [hacc]; rfl) (fun i hi => ?_) ?_ (fun i hi => ?_) (fun i hi j hj => ?_) (fun i hi => ?_) (fun i hi j hj => ?_) (fun i hi => inc_real (by omega)) (fun i hi => ?_)) ?_
    · rcases c2 i hi with rfl | rfl <;> simp
    · rw [lss_real, len_real]; simp; omega
    · rw [lss_real, len_real]; simp
    · rcases c2 i hi with rfl | rfl <;> rfl
    · rw [lss_real, len_real]
      rcases c2 i hi with rfl | rfl
      · simpa using hj
      · simpa using hj
    · rw [lss_real, len_real]
      rcases c2 i hi with rfl | rfl <;> simp
    · rcases c2 i hi with rfl | rfl
      · simp only [if_true] at hj ⊢
        rw [get_ev hj, getD_ev hj]
      · simp only [Nat.one_ne_zero, if_false] at hj ⊢
        rw [get_ev hj, getD_ev hj]
    · rw [mi_real, len_real]
      rcases c2 i hi with rfl | rfl
      · simp only [hacc, if_true, List.length_map]
        rw [add_real (by unfold inI; omega)]; simp
      · simp only [hacc, Nat.one_ne_zero, if_false, List.length_map, if_true]
        rw [add_real (by unfold inI; omega)]; simp
    · rintro ex s ⟨r, ⟨b, hb, rfl⟩, hf⟩
      refine ⟨_, ⟨b, fun h => ?_, rfl⟩, hf⟩
      have h0 := hb h 0 (by omega)
      have h1 := hb h 1 (by omega)
      rw [gtr_real, hacc] at h0 h1
      simp at h0 h1
      omega
  obtain ⟨r, ⟨b, hb, rfl⟩, h⟩ := this
  exact ⟨b, hb, h⟩

/-! ### What one lacks -/
def sF (V : List Int) (most : Int) (s : List Ev) (e : Ev) : List Ev := if hasB V e.r e.n = false ∧ (s.length : Int) < most then s ++ [e] else s
theorem sF_len (V : List Int) (most : Int) : ∀ (l s : List Ev), (l.foldl (sF V most) s).length ≤ s.length + l.length
  | [], s => by simp
  | e :: r, s => by
    rw [List.foldl_cons]
    have h := sF_len V most r (sF V most s e)
    have : (sF V most s e).length ≤ s.length + 1 := by unfold sF; split <;> simp
    simp only [List.length_cons]; omega
abbrev sinceF (n : Nat) : FV := .tup [(false, [.slo 0 0 n]), (false, [.iv (.bool true)])]
abbrev noneF : FV := .tup [(false, [.iv (.sl true 0 [])]), (false, [.iv (.bool false)])]
theorem within_eq {a b : List Int} (ha : a.length = 64) (hb : b.length = 64) : decide (joinI a b = b) = withinB a b := by
  rw [Bool.eq_iff_iff]
  simp only [decide_eq_true_eq, withinB, List.all_eq_true, List.mem_range]
  have hj : ∀ i, i < 64 → (joinI a b).getD i 0 = max (a.getD i 0) (b.getD i 0) := fun i hi => by
    simp [joinI, zipI, hi]
  constructor
  · intro h i hi
    have := hj i hi
    rw [h] at this
    omega
  · intro h
    refine List.ext_getElem? fun i => ?_
    by_cases hi : i < 64
    · have h1 := hj i hi
      have h2 := h i hi
      have hl : i < (joinI a b).length := by rw [joinI, zip_len]; exact hi
      rw [List.getElem?_eq_getElem hl, List.getElem?_eq_getElem (by omega)]
      rw [List.getD_eq_getElem?_getD, List.getElem?_eq_getElem hl, List.getD_eq_getElem?_getD, List.getD_eq_getElem?_getD, List.getElem?_eq_getElem (by omega : i < b.length)] at h1
      rw [List.getD_eq_getElem?_getD, List.getD_eq_getElem?_getD, List.getElem?_eq_getElem (by omega : i < b.length)] at h2
      simp only [Option.getD_some] at h1 h2
      congr 1
      omega
    · rw [List.getElem?_eq_none (by rw [joinI, zip_len]; omega), List.getElem?_eq_none (by omega)]
end Go.Proofs.Ytomchclmnmhjaaa
