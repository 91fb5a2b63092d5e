/- A reader reads numbers that rise: gone through. -/
import Derived.Test.YtlljgefgbglmbaaCGJ
set_option linter.unusedSimpArgs false
set_option linter.unusedVariables false
set_option maxRecDepth 100000
set_option maxHeartbeats 1000000
set_option cbv.maxSteps 10000000
namespace Go.Proofs.Ytlljgefgbglmbaa
open Go GoV

def intsI (l : List Int) : List (List IV) := l.map fun z => [.int .i64 z]
def risGo (bs : List Nat) (top : Int) : Nat → Nat → List Int → RS → Option (List Int) × RS
  | 0, _, l, s => (some l, s)
  | n + 1, p, l, s => if (numS bs (top - p) s).2.err = 0 then risGo bs top n (p + (numS bs (top - p) s).1 + 1) (l ++ [((p + (numS bs (top - p) s).1 : Nat) : Int)]) (numS bs (top - p) s).2 else (none, (numS bs (top - p) s).2)
def risS (bs : List Nat) (many top : Int) (s : RS) : Option (List Int) × RS := risGo bs top (numS bs many s).1 0 [] (numS bs many s).2
theorem numS_er {bs : List Nat} {most : Int} {s : RS} (h : (numS bs most s).2.err ≠ 0) : (numS bs most s).1 = 0 := by
  unfold numS at h ⊢
  split
  · rfl
  · rename_i heq
    rw [heq] at h
    dsimp only at h
    split
    · rfl
    · rename_i hc
      rw [if_neg hc] at h
      cases s with
      | er f e => simp [rawS] at heq
      | ok f o n =>
        simp only [rawS] at heq
        split at heq
        · cases heq
        · split at heq
          · cases heq
          · split at heq
            · simp only [Prod.mk.injEq, Option.some.injEq] at heq
              obtain ⟨rfl, rfl⟩ := heq
              exact absurd rfl h
            · cases heq
theorem fail_isOk (s : RS) (e : Int) : (s.fail e).isOk = false := by cases s <;> rfl
theorem numS_ok {bs : List Nat} {most : Int} {s : RS} (h : (numS bs most s).2.isOk = true) : ((numS bs most s).1 : Int) ≤ most := by
  unfold numS at h ⊢
  split
  · rename_i heq
    rw [heq] at h
    dsimp only at h
    cases s with
    | er f e =>
      simp only [rawS, Prod.mk.injEq] at heq
      obtain ⟨_, rfl⟩ := heq
      cases h
    | ok f o n =>
      simp only [rawS] at heq
      split at heq
      · simp only [Prod.mk.injEq] at heq; obtain ⟨_, rfl⟩ := heq; cases h
      · split at heq
        · simp only [Prod.mk.injEq] at heq; obtain ⟨_, rfl⟩ := heq; cases h
        · split at heq
          · cases heq
          · simp only [Prod.mk.injEq] at heq; obtain ⟨_, rfl⟩ := heq; cases h
  · rename_i heq
    rw [heq] at h
    dsimp only at h
    split
    · rename_i hc
      rw [if_pos hc] at h
      dsimp only at h
      rw [fail_isOk] at h
      cases h
    · dsimp only; omega
theorem risGo_fits {bs : List Nat} {top : Int} : ∀ {n p : Nat} {l : List Int} {s : RS}, s.fits bs.length → (risGo bs top n p l s).2.fits bs.length
  | 0, _, _, _, h => h
  | n + 1, p, l, s, h => by
    unfold risGo
    split
    · exact risGo_fits (numS_fits h)
    · exact numS_fits h
/-- What a list of numbers that rise comes to. -/
def risF (b : Nat) : Option (List Int) → FV
  | none => .one (.iv (.sl true 0 []))
  | some l => .one (.slo b 0 l.length)
def risB : Option (List Int) → List Blk
  | none => []
  | some l => [.arr false false 1 (intsI l)]
theorem n88 (bs : List Nat) (hb : ∀ b, b ∈ bs → b < 256) {many top : Int} (hm : many ≤ 1000) (ht : 0 ≤ top) (ht' : top < 4611686018427387904) (f : Bool) (o n : Nat) (hs : o + n = bs.length) :
    Pn 1100 88 [rp, i64 many, i64 top] (rdS true (by8 bs) (.ok f o n)) (risF 2 (risS bs many top (.ok f o n)).1) (rdS true (by8 bs) (risS bs many top (.ok f o n)).2 ++ risB (risS bs many top (.ok f o n)).1) := by
  refine playN 1099 rfl rfl fun A call hA hcall => ?_
  obtain ⟨pl, mi, ml, nt, tn, ad, sb, K⟩ := kit hA
  obtain ⟨E, ix, sn, ll, cc, sg, I⟩ := lkit hA K (0 : Int) (fun z => [.int .i64 z]) 8
  have kn : ∀ (J : Int) (s : RS), s.fits bs.length → call 44 [rp, i64 J] (rdS s.isOk (by8 bs) s) = some (i64 (numS bs J s).1, rdS s.isOk (by8 bs) (numS bs J s).2) := fun J s h => by rw [hcall]; exact n44 bs hb J s h 1099 (by omega)
  have ke : ∀ (s : RS), call 89 [rp] (rdS s.isOk (by8 bs) s) = some (i64 s.err, rdS s.isOk (by8 bs) s) := fun s => by rw [hcall]; exact n89 _ s 1099 (by omega)
  have k1 := kn many (.ok f o n) hs
  have hf := numS_fits (most := many) (s := .ok f o n) hs
  have hr := numS_er (bs := bs) (most := many) (s := .ok f o n)
  have hlt := numS_lt bs many (.ok f o n)
  have hE0 : E [] = [] := by rw [I.E_]; rfl
  unfold risS
  generalize hN : numS bs many (.ok f o n) = N at *
  obtain ⟨m, s1⟩ := N
  dsimp only at hf hr hlt k1 ⊢
  cases s1 with
  | er f1 e1 =>
    have hm0 : m = 0 := hr hf
    subst hm0
    dsimp only [risGo, risF, risB, RS.isOk, cond_true, cond_false, rdS, List.length_nil] at k1 ⊢
    have hz : ((0 : Nat) : Int) = 0 := rfl
    rw [hz] at k1
    rw [show intsI [] = [] from rfl]
    generalize by8 bs = es at *
    refine wpV_ofH (by ((try (conv => lhs; cbv)); (repeat ((first | (rewrite [k1]) | (rewrite [K.ltF]; rotate_left; focus ((try simp only [K.df, I.df, true_and, and_true]) <;> omega))); (try (conv => lhs; cbv)))); (exact rfl))) ?_
    (show finV _ _ _ = some _; ((try (conv => lhs; cbv)); (try (with_reducible rfl))); (try rfl))
  | ok f1 o1 n1 =>
    obtain ⟨M, hM⟩ : ∃ M : Int, M = m := ⟨_, rfl⟩
    generalize hR : risGo bs top m 0 [] (.ok f1 o1 n1) = R
    have hme : m ≤ 1000 := by omega
    dsimp only [RS.isOk, cond_true, cond_false, rdS] at k1 ⊢
    rw [← hM] at k1
    obtain ⟨es, hes⟩ : ∃ es, es = by8 bs := ⟨_, rfl⟩
    rw [← hes] at k1 kn ke ⊢
    have hEI : ∀ l, intsI l = E l := fun l => by rw [I.E_]; rfl
    clear hN
    apply wpV_seq; refine wpV_ofH (by ((try (conv => lhs; cbv)); (exact rfl))) ?_
    apply wpV_seq; refine wpV_ofH (by ((try (conv => lhs; cbv)); (repeat ((first | (rewrite [k1])); (try (conv => lhs; cbv)))); (exact rfl))) ?_
    apply wpV_seq; refine wpV_ofH (by ((try (conv => lhs; cbv)); (exact rfl))) ?_
    apply wpV_seq; refine wpV_ofH (by ((try (conv => lhs; cbv)); (exact rfl))) ?_
    apply wpV_seq; apply wpV_seq; refine wpV_ofH (by ((try (conv => lhs; cbv)); (exact rfl))) ?_
    apply wpV_block
    refine wpV_loop m (fun i st => ∃ (f' : Bool) (o' n' p : Nat) (l : List Int) (Z J : Int) (ln : Nat), st = ⟨2, [rp, u, i64 top, u, u, u, u, u, .one (.slo 2 0 ln), i64 Z, u, u, u, i64 M, i64 J, u, u, u, u, u, u, u, u, u, u, u, u, u, u, u, u, u, u, u, u], [.var false [.slo 1 o' n', .iv (.int .i64 0), .iv (.bool true)], .arr f' false 1 es, .arr false false 1 (E l)]⟩ ∧ J = i ∧ Z = (p : Int) - 1 ∧ ln = l.length ∧ l.length = i ∧ o' + n' = bs.length ∧ (p : Int) ≤ top + 1 ∧ risGo bs top (m - i) p l (.ok f' o' n') = R) (by omega) (by ((try (conv => lhs; cbv)); (try (with_reducible rfl)))) ⟨f1, o1, n1, 0, [], -1, 0, 0, by rw [hE0], rfl, rfl, rfl, rfl, hf, by omega, hR⟩ ?_
    rintro i hi st ⟨f', o', n', p, l, Z, J, ln, rfl, hJ, hZ, hln, hli, hfit, hp, hgo⟩
    by_cases him : i < m
    · rw [show m - i = (m - i - 1) + 1 by omega, risGo] at hgo
      have k2 := kn (top - p) (.ok f' o' n') hfit
      have hf2 := numS_fits (most := top - p) (s := .ok f' o' n') hfit
      have hlt2 := numS_lt bs (top - p) (.ok f' o' n')
      have hr2 := numS_er (bs := bs) (most := top - p) (s := .ok f' o' n')
      have hk2 := numS_ok (bs := bs) (most := top - p) (s := .ok f' o' n')
      generalize numS bs (top - p) (.ok f' o' n') = N2 at *
      obtain ⟨x, s2⟩ := N2
      dsimp only at hf2 hlt2 k2 hgo hr2 hk2
      obtain ⟨U, hU⟩ : ∃ U : Int, U = top - p := ⟨_, rfl⟩
      obtain ⟨X, hX⟩ : ∃ X : Int, X = x := ⟨_, rfl⟩
      rw [← hU, ← hX] at k2
      have e1 : mi (mi top Z) 1 = U := by rw [K.mi_, K.mi_]; omega
      cases s2 with
      | ok f2 o2 n2 =>
        have k3 := ke (.ok f2 o2 n2)
        rw [if_pos (show (RS.ok f2 o2 n2).err = 0 from rfl)] at hgo
        have hf2 : o2 + n2 = bs.length := hf2
        dsimp only [RS.isOk, cond_true, cond_false, rdS, RS.err] at k2 k3
        have hx : (x : Int) ≤ top - p := hk2 rfl
        · refine wpV_ofH (by ((try (conv => lhs; cbv)); (repeat ((first | (rewrite [e1]) | (rewrite [k2]) | (rewrite [k3]) | (rewrite [K.addN]) | (rewrite [K.subl]; rotate_left; focus ((try simp only [K.df, I.df, true_and, and_true]) <;> omega)) | (rewrite [K.addr]; rotate_left; focus ((try simp only [K.df, I.df, true_and, and_true]) <;> omega)) | (rewrite [K.add]; rotate_left; focus ((try simp only [K.df, I.df, true_and, and_true]) <;> omega)) | (rewrite [K.sub]; rotate_left; focus ((try simp only [K.df, I.df, true_and, and_true]) <;> omega)) | (rewrite [I.ln]) | (rewrite [I.apo]; rotate_left; focus ((try simp only [K.df, I.df, true_and, and_true]) <;> omega)) | (rewrite [K.ltT]; rotate_left; focus ((try simp only [K.df, I.df, true_and, and_true]) <;> omega)) | (rewrite [K.mxL]; rotate_left; focus ((try simp only [K.df, I.df, true_and, and_true]) <;> omega)) | (rewrite [K.neF]; rotate_left; focus ((try simp only [K.df, I.df, true_and, and_true]) <;> omega))); (try (conv => lhs; cbv)))); (exact rfl))) ?_
          refine headQ_ofH (by ((try (conv => lhs; cbv)); (exact rfl))) ?_
          refine ⟨him, f2, o2, n2, p + x + 1, _, _, _, _, rfl, ?_, ?_, ?_, ?_, hf2, ?_, ?_⟩
          · rw [K.pl_]; omega
          · rw [K.pl_, K.pl_]; omega
          · rw [I.ll_]
          · rw [I.sn_, List.length_append, hli]; rfl
          · omega
          · rw [show m - (i + 1) = m - i - 1 by omega, I.sn_, K.pl_, K.pl_, show Z + (1 + X) = ((p + x : Nat) : Int) by omega]
            exact hgo
      | er f2 e2 =>
        have hf2 : e2 ≠ 0 := hf2
        have k3 := ke (.er f2 e2)
        have hx0 : x = 0 := hr2 hf2
        rw [if_neg (show ¬ (RS.er f2 e2).err = 0 from hf2)] at hgo
        rw [← hgo]
        dsimp only [RS.isOk, cond_true, cond_false, rdS, RS.err, risF, risB] at k2 k3 ⊢
        refine wpV_ofH (by ((try (conv => lhs; cbv)); (repeat ((first | (rewrite [e1]) | (rewrite [k2]) | (rewrite [k3]) | (rewrite [K.subl]; rotate_left; focus ((try simp only [K.df, I.df, true_and, and_true]) <;> omega)) | (rewrite [K.addr]; rotate_left; focus ((try simp only [K.df, I.df, true_and, and_true]) <;> omega)) | (rewrite [K.add]; rotate_left; focus ((try simp only [K.df, I.df, true_and, and_true]) <;> omega)) | (rewrite [K.sub]; rotate_left; focus ((try simp only [K.df, I.df, true_and, and_true]) <;> omega)) | (rewrite [K.ltT]; rotate_left; focus ((try simp only [K.df, I.df, true_and, and_true]) <;> omega)) | (rewrite [K.neT]; rotate_left; focus ((try simp only [K.df, I.df, true_and, and_true]) <;> omega)) | (rewrite [K.mxL]; rotate_left; focus ((try simp only [K.df, I.df, true_and, and_true]) <;> omega))); (try (conv => lhs; cbv)))); (exact rfl))) ?_
        show finQ _ _ _ _ _
        (show finV _ _ _ = some _; ((try (conv => lhs; cbv)); (try (with_reducible rfl))); (try rfl))
    · obtain rfl : i = m := by omega
      rw [Nat.sub_self, risGo] at hgo
      rw [← hgo]
      dsimp only [RS.isOk, cond_true, cond_false, rdS, RS.err, risF, risB]
      rw [hEI, ← hln]
      refine wpV_ofH (by ((try (conv => lhs; cbv)); (repeat ((first | (rewrite [K.ltF]; rotate_left; focus ((try simp only [K.df, I.df, true_and, and_true]) <;> omega))); (try (conv => lhs; cbv)))); (exact rfl))) ?_
      show wpV _ _ _ _ _ _
      refine wpV_ofH (by ((try (conv => lhs; cbv)); (exact rfl))) ?_
      (show finV _ _ _ = some _; ((try (conv => lhs; cbv)); (try (with_reducible rfl))); (try rfl))
end Go.Proofs.Ytlljgefgbglmbaa
