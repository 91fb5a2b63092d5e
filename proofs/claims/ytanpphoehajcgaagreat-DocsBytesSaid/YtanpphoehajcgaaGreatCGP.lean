/- The reference's reader reads numbers that rise: gone through. -/
import Derived.Test.YtanpphoehajcgaaGreatCGO
import Derived.Test.YtanpphoehajcgaaGreatCGK
set_option linter.unusedSimpArgs false
set_option linter.unusedVariables false
set_option maxRecDepth 100000
set_option maxHeartbeats 1000000
set_option cbv.maxSteps 10000000
namespace Go.Proofs.YtanpphoehajcgaaGreat
open Go GoV

theorem rawS_some {bs : List Nat} (hb : ∀ b, b ∈ bs → b < 256) {s : RS} {x : Nat} {s' : RS} (h : rawS bs s = (some x, s')) : x < 2 ^ 64 ∧ s.isOk = true ∧ s'.isOk = true := by
  cases s with
  | er f e => simp [rawS] at h
  | ok f o n =>
    simp only [rawS] at h
    split at h
    · cases h
    · split at h
      · cases h
      · split at h
        · simp only [Prod.mk.injEq, Option.some.injEq] at h
          obtain ⟨rfl, rfl⟩ := h
          exact ⟨rawV_lt hb o, rfl, rfl⟩
        · cases h
theorem rawS_none {bs : List Nat} {s : RS} {s' : RS} (h : rawS bs s = (none, s')) : s'.isOk = false := by
  cases s with
  | er f e =>
    simp only [rawS, Prod.mk.injEq] at h
    rw [← h.2]; rfl
  | ok f o n =>
    simp only [rawS] at h
    split at h
    · simp only [Prod.mk.injEq] at h; rw [← h.2]; rfl
    · split at h
      · simp only [Prod.mk.injEq] at h; rw [← h.2]; rfl
      · split at h
        · cases h
        · simp only [Prod.mk.injEq] at h; rw [← h.2]; rfl
theorem n49 (bs : List Nat) (hb : ∀ b, b ∈ bs → b < 256) (most : Int) (s : RS) (hs : s.fits bs.length) : Pn 14 49 [rp, i64 most] (rdR s.isOk (by8 bs) s) (i64 (numS bs most s).1) (rdR s.isOk (by8 bs) (numS bs most s).2) := by
  refine playN 13 rfl rfl fun A call hA hcall => ?_
  obtain ⟨pl, mi, ml, nt, tn, ad, sb, K⟩ := kit hA
  obtain ⟨E, ix, sn, ll, cc, sg, I⟩ := lkit hA K (0 : Int) (fun z => [.int .i64 z]) 8
  have k1 := n90 bs hb s hs 13 (by omega)
  rw [← hcall] at k1
  have hf := rawS_fits hs
  have hes : (by8 bs).length = bs.length := by8_len bs
  have hz : ((0 : Nat) : Int) = 0 := rfl
  have hsome := fun x s' => rawS_some hb (s := s) (x := x) (s' := s')
  have hnone := fun s' => rawS_none (bs := bs) (s := s) (s' := s')
  have hee : ∀ f e, s = .er f e → rawS bs s = (none, s) := by rintro f e rfl; rfl
  unfold numS
  generalize rawS bs s = r at *
  obtain ⟨r, s'⟩ := r
  dsimp only at hf
  cases r with
  | none =>
    have h1 := hnone s' rfl
    dsimp only [Option.getD] at k1 ⊢
    rw [hz] at k1 ⊢
    cases s with
    | ok f o n =>
      cases s' with
      | ok f' o' n' => cases h1
      | er f' e' =>
        have hf : e' ≠ 0 := hf
        dsimp only [RS.isOk, cond_true, cond_false, rdR] at k1 ⊢
        generalize by8 bs = es at *
        refine wpV_ofH (by ((try (conv => lhs; cbv)); (repeat ((first | (rewrite [k1]) | (rewrite [K.ckI]; rotate_left; focus ((try simp only [K.df, I.df, true_and, and_true]) <;> omega)) | (rewrite [K.geF]; rotate_left; focus ((try simp only [K.df, I.df, true_and, and_true]) <;> omega)) | (rewrite [K.eqF]; rotate_left; focus ((try simp only [K.df, I.df, true_and, and_true]) <;> omega))); (try (conv => lhs; cbv)))); (exact rfl))) ?_
        (show finV _ _ _ = some _; ((try (conv => lhs; cbv)); (try (with_reducible rfl))); (try rfl))
    | er f e =>
      have hs : e ≠ 0 := hs
      have h2 := hee f e rfl
      simp only [Prod.mk.injEq, true_and] at h2
      subst h2
      dsimp only [RS.isOk, cond_true, cond_false, rdR] at k1 ⊢
      refine wpV_ofH (by ((try (conv => lhs; cbv)); (repeat ((first | (rewrite [k1]) | (rewrite [K.ckI]; rotate_left; focus ((try simp only [K.df, I.df, true_and, and_true]) <;> omega)) | (rewrite [K.geF]; rotate_left; focus ((try simp only [K.df, I.df, true_and, and_true]) <;> omega)) | (rewrite [K.eqF]; rotate_left; focus ((try simp only [K.df, I.df, true_and, and_true]) <;> omega))); (try (conv => lhs; cbv)))); (exact rfl))) ?_
      (show finV _ _ _ = some _; ((try (conv => lhs; cbv)); (try (with_reducible rfl))); (try rfl))
  | some x =>
    obtain ⟨hx1, h2, h3⟩ := hsome x s' rfl
    cases s with
    | er f e => cases h2
    | ok f o n =>
      cases s' with
      | er f' e' => cases h3
      | ok f' o' n' =>
        have k3 := n52 (by8 bs) (.ok f' o' n') (e := 5) (by decide) (by rw [hes]; exact hf) 13 (by omega)
        rw [← hcall] at k3
        dsimp only [Option.getD, RS.isOk, cond_true, cond_false, rdR, RS.fail] at k1 k3 ⊢
        by_cases h1 : 2 ^ 63 ≤ x
        · rw [if_pos (.inl h1), hz]
          dsimp only [rdR, cond_true]
          generalize by8 bs = es at *
          obtain ⟨X, hX⟩ : ∃ X : Int, X = x := ⟨_, rfl⟩
          rw [← hX] at k1
          refine wpV_ofH (by ((try (conv => lhs; cbv)); (repeat ((first | (rewrite [k1]) | (rewrite [k3]) | (rewrite [K.geT]; rotate_left; focus ((try simp only [K.df, I.df, true_and, and_true]) <;> omega))); (try (conv => lhs; cbv)))); (exact rfl))) ?_
          (show finV _ _ _ = some _; ((try (conv => lhs; cbv)); (try (with_reducible rfl))); (try rfl))
        · by_cases h2 : most < (x : Int)
          · rw [if_pos (.inr h2), hz]
            dsimp only [rdR, cond_true]
            generalize by8 bs = es at *
            obtain ⟨X, hX⟩ : ∃ X : Int, X = x := ⟨_, rfl⟩
            rw [← hX] at k1
            refine wpV_ofH (by ((try (conv => lhs; cbv)); (repeat ((first | (rewrite [k1]) | (rewrite [k3]) | (rewrite [K.ckI]; rotate_left; focus ((try simp only [K.df, I.df, true_and, and_true]) <;> omega)) | (rewrite [K.gtT]; rotate_left; focus ((try simp only [K.df, I.df, true_and, and_true]) <;> omega)) | (rewrite [K.eqT]; rotate_left; focus ((try simp only [K.df, I.df, true_and, and_true]) <;> omega)) | (rewrite [K.geF]; rotate_left; focus ((try simp only [K.df, I.df, true_and, and_true]) <;> omega))); (try (conv => lhs; cbv)))); (exact rfl))) ?_
            (show finV _ _ _ = some _; ((try (conv => lhs; cbv)); (try (with_reducible rfl))); (try rfl))
          · rw [if_neg (by omega)]
            dsimp only [rdR, cond_true]
            generalize by8 bs = es at *
            obtain ⟨X, hX⟩ : ∃ X : Int, X = x := ⟨_, rfl⟩
            rw [← hX] at k1 ⊢
            refine wpV_ofH (by ((try (conv => lhs; cbv)); (repeat ((first | (rewrite [k1]) | (rewrite [k3]) | (rewrite [K.ckI]; rotate_left; focus ((try simp only [K.df, I.df, true_and, and_true]) <;> omega)) | (rewrite [K.eqT]; rotate_left; focus ((try simp only [K.df, I.df, true_and, and_true]) <;> omega)) | (rewrite [K.gtF]; rotate_left; focus ((try simp only [K.df, I.df, true_and, and_true]) <;> omega)) | (rewrite [K.geF]; rotate_left; focus ((try simp only [K.df, I.df, true_and, and_true]) <;> omega))); (try (conv => lhs; cbv)))); (exact rfl))) ?_
            (show finV _ _ _ = some _; ((try (conv => lhs; cbv)); (try (with_reducible rfl))); (try rfl))
theorem n89 (bs : List Nat) (hb : ∀ b, b ∈ bs → b < 256) {many top : Int} (hm : many ≤ 1000) (ht : 0 ≤ top) (ht' : top < 4611686018427387904) (f : Bool) (o n : Nat) (hs : o + n = bs.length) :
    Pn 1100 89 [rp, i64 many, i64 top] (rdR true (by8 bs) (.ok f o n)) (risF 2 (risS bs many top (.ok f o n)).1) (rdR true (by8 bs) (risS bs many top (.ok f o n)).2 ++ risB (risS bs many top (.ok f o n)).1) := by
  refine playN 1099 rfl rfl fun A call hA hcall => ?_
  obtain ⟨pl, mi, ml, nt, tn, ad, sb, K⟩ := kit hA
  obtain ⟨E, ix, sn, ll, cc, sg, I⟩ := lkit hA K (0 : Int) (fun z => [.int .i64 z]) 8
  have kn : ∀ (J : Int) (s : RS), s.fits bs.length → call 49 [rp, i64 J] (rdR s.isOk (by8 bs) s) = some (i64 (numS bs J s).1, rdR s.isOk (by8 bs) (numS bs J s).2) := fun J s h => by rw [hcall]; exact n49 bs hb J s h 1099 (by omega)
  have k1 := kn many (.ok f o n) hs
  have hf := numS_fits (most := many) (s := .ok f o n) hs
  have hr := numS_er (bs := bs) (most := many) (s := .ok f o n)
  have hlt := numS_lt bs many (.ok f o n)
  have hE0 : E [] = [] := by rw [I.E_]; rfl
  unfold risS
  generalize hN : numS bs many (.ok f o n) = N at *
  obtain ⟨m, s1⟩ := N
  dsimp only at hf hr hlt k1 ⊢
  cases s1 with
  | er f1 e1 =>
    have hm0 : m = 0 := hr hf
    subst hm0
    dsimp only [risGo, risF, risB, RS.isOk, cond_true, cond_false, rdR, List.length_nil] at k1 ⊢
    have hz : ((0 : Nat) : Int) = 0 := rfl
    rw [hz] at k1
    rw [show intsI [] = [] from rfl]
    generalize by8 bs = es at *
    refine wpV_ofH (by ((try (conv => lhs; cbv)); (repeat ((first | (rewrite [k1]) | (rewrite [K.ltF]; rotate_left; focus ((try simp only [K.df, I.df, true_and, and_true]) <;> omega))); (try (conv => lhs; cbv)))); (exact rfl))) ?_
    (show finV _ _ _ = some _; ((try (conv => lhs; cbv)); (try (with_reducible rfl))); (try rfl))
  | ok f1 o1 n1 =>
    obtain ⟨M, hM⟩ : ∃ M : Int, M = m := ⟨_, rfl⟩
    generalize hR : risGo bs top m 0 [] (.ok f1 o1 n1) = R
    have hme : m ≤ 1000 := by omega
    dsimp only [RS.isOk, cond_true, cond_false, rdR] at k1 ⊢
    rw [← hM] at k1
    obtain ⟨es, hes⟩ : ∃ es, es = by8 bs := ⟨_, rfl⟩
    rw [← hes] at k1 kn ⊢
    have hEI : ∀ l, intsI l = E l := fun l => by rw [I.E_]; rfl
    clear hN
    apply wpV_seq; refine wpV_ofH (by ((try (conv => lhs; cbv)); (exact rfl))) ?_
    apply wpV_seq; refine wpV_ofH (by ((try (conv => lhs; cbv)); (repeat ((first | (rewrite [k1])); (try (conv => lhs; cbv)))); (exact rfl))) ?_
    apply wpV_seq; refine wpV_ofH (by ((try (conv => lhs; cbv)); (exact rfl))) ?_
    apply wpV_seq; apply wpV_seq; refine wpV_ofH (by ((try (conv => lhs; cbv)); (exact rfl))) ?_
    apply wpV_block
    refine wpV_loop m (fun i st => ∃ (f' : Bool) (o' n' p : Nat) (l : List Int) (J : Int) (ln : Nat), st = ⟨2, (rp :: u :: i64 top :: u :: u :: u :: u :: u :: .one (.slo 2 0 ln) :: u :: u :: u :: u :: u :: u :: i64 M :: i64 J :: u :: u :: u :: u :: u :: u :: u :: u :: u :: u :: u :: u :: u :: u :: u :: u :: u :: u :: u :: u :: u :: u :: u :: u :: u :: u :: u :: u :: u :: u :: u :: u :: u :: u :: u :: u :: u :: []), [.var false [.slo 1 o' n', .iv (.int .i64 0)], .arr false false 1 es, .arr false false 1 (E l)]⟩ ∧ J = i ∧ (i = 0 → p = 0) ∧ (0 < i → ix l (J - 1) = (p : Int) - 1) ∧ ln = l.length ∧ l.length = i ∧ o' + n' = bs.length ∧ (p : Int) ≤ top + 1 ∧ risGo bs top (m - i) p l (.ok f' o' n') = R) (by omega) (by ((try (conv => lhs; cbv)); (try (with_reducible rfl)))) ⟨f1, o1, n1, 0, [], 0, 0, by rw [hE0], rfl, fun _ => rfl, fun h => by omega, rfl, rfl, hf, by omega, hR⟩ ?_
    rintro i hi st ⟨f', o', n', p, l, J, ln, rfl, hJ, hp0, hp1, hln, hli, hfit, hp, hgo⟩
    by_cases him : i < m
    · rw [show m - i = (m - i - 1) + 1 by omega, risGo] at hgo
      have k2 := kn (top - p) (.ok f' o' n') hfit
      have hf2 := numS_fits (most := top - p) (s := .ok f' o' n') hfit
      have hlt2 := numS_lt bs (top - p) (.ok f' o' n')
      have hr2 := numS_er (bs := bs) (most := top - p) (s := .ok f' o' n')
      have hk2 := numS_ok (bs := bs) (most := top - p) (s := .ok f' o' n')
      generalize numS bs (top - p) (.ok f' o' n') = N2 at *
      obtain ⟨x, s2⟩ := N2
      dsimp only at hf2 hlt2 k2 hgo hr2 hk2
      obtain ⟨X, hX⟩ : ∃ X : Int, X = x := ⟨_, rfl⟩
      rw [← hX] at k2
      by_cases hi0 : i = 0
      · have hp0 := hp0 hi0
        have et : top - (p : Int) = top := by omega
        rw [et] at k2
        have ex : ((p + x : Nat) : Int) = X := by omega
        cases s2 with
        | ok f2 o2 n2 =>
          rw [if_pos (show (RS.ok f2 o2 n2).err = 0 from rfl)] at hgo
          have hf2 : o2 + n2 = bs.length := hf2
          have hx : (x : Int) ≤ top - p := hk2 rfl
          dsimp only [RS.isOk, cond_true, cond_false, rdR, RS.err] at k2
          rw [ex] at hgo
          refine wpV_ofH (by ((try (conv => lhs; cbv)); (repeat ((first | (rewrite [k2]) | (rewrite [K.addN]) | (rewrite [K.add]; rotate_left; focus ((try simp only [K.df, I.df, true_and, and_true]) <;> omega)) | (rewrite [K.sub]; rotate_left; focus ((try simp only [K.df, I.df, true_and, and_true]) <;> omega)) | (rewrite [I.ln]) | (rewrite [I.apo]; rotate_left; focus ((try simp only [K.df, I.df, true_and, and_true]) <;> omega)) | (rewrite [K.ltT]; rotate_left; focus ((try simp only [K.df, I.df, true_and, and_true]) <;> omega)) | (rewrite [K.gtF]; rotate_left; focus ((try simp only [K.df, I.df, true_and, and_true]) <;> omega)) | (rewrite [K.neF]; rotate_left; focus ((try simp only [K.df, I.df, true_and, and_true]) <;> omega))); (try (conv => lhs; cbv)))); (exact rfl))) ?_
          refine headQ_ofH (by ((try (conv => lhs; cbv)); (exact rfl))) ?_
          refine ⟨him, f2, o2, n2, p + x + 1, _, _, _, rfl, ?_, fun h => by omega, fun _ => ?_, ?_, ?_, hf2, ?_, ?_⟩
          · rw [K.pl_]; omega
          · rw [I.ix_, I.sn_, K.pl_, show (J + 1 - 1).toNat = l.length by omega]
            simp only [List.getD_eq_getElem?_getD, List.getElem?_append_right (Nat.le_refl _), Nat.sub_self, List.getElem?_cons_zero, Option.getD_some]
            omega
          · rw [I.ll_]
          · rw [I.sn_, List.length_append, hli]; rfl
          · omega
          · rw [show m - (i + 1) = m - i - 1 by omega, I.sn_]
            exact hgo
        | er f2 e2 =>
          have hf2 : e2 ≠ 0 := hf2
          have hx0 : x = 0 := hr2 hf2
          rw [if_neg (show ¬ (RS.er f2 e2).err = 0 from hf2)] at hgo
          rw [← hgo]
          dsimp only [RS.isOk, cond_true, cond_false, rdR, RS.err, risF, risB] at k2 ⊢
          refine wpV_ofH (by ((try (conv => lhs; cbv)); (repeat ((first | (rewrite [k2]) | (rewrite [K.sub]; rotate_left; focus ((try simp only [K.df, I.df, true_and, and_true]) <;> omega)) | (rewrite [K.ltT]; rotate_left; focus ((try simp only [K.df, I.df, true_and, and_true]) <;> omega)) | (rewrite [K.neT]; rotate_left; focus ((try simp only [K.df, I.df, true_and, and_true]) <;> omega)) | (rewrite [K.gtF]; rotate_left; focus ((try simp only [K.df, I.df, true_and, and_true]) <;> omega))); (try (conv => lhs; cbv)))); (exact rfl))) ?_
          show finQ _ _ _ _ _
          (show finV _ _ _ = some _; ((try (conv => lhs; cbv)); (try (with_reducible rfl))); (try rfl))
      · have hp1 := hp1 (by omega)
        have eL : ix l (mi J 1) = (p : Int) - 1 := by rw [K.mi_]; exact hp1
        obtain ⟨P, hP⟩ : ∃ P : Int, P = (p : Int) - 1 := ⟨_, rfl⟩
        rw [← hP] at eL
        have e1 : mi (mi top P) 1 = top - p := by rw [K.mi_, K.mi_]; omega
        rw [← e1] at k2
        have ex : ((p + x : Nat) : Int) = pl (pl P 1) X := by rw [K.pl_, K.pl_]; omega
        cases s2 with
        | ok f2 o2 n2 =>
          rw [if_pos (show (RS.ok f2 o2 n2).err = 0 from rfl)] at hgo
          have hf2 : o2 + n2 = bs.length := hf2
          have hx : (x : Int) ≤ top - p := hk2 rfl
          dsimp only [RS.isOk, cond_true, cond_false, rdR, RS.err] at k2
          rw [ex] at hgo
          refine wpV_ofH (by ((try (conv => lhs; cbv)); (repeat ((first | (rewrite [k2]) | (rewrite [eL]) | (rewrite [K.addN]) | (rewrite [K.addl]; rotate_left; focus ((try simp only [K.df, I.df, true_and, and_true]) <;> omega)) | (rewrite [K.subl]; rotate_left; focus ((try simp only [K.df, I.df, true_and, and_true]) <;> omega)) | (rewrite [K.add]; rotate_left; focus ((try simp only [K.df, I.df, true_and, and_true]) <;> omega)) | (rewrite [K.sub]; rotate_left; focus ((try simp only [K.df, I.df, true_and, and_true]) <;> omega)) | (rewrite [K.at_]; rotate_left; focus ((try simp only [K.df, I.df, true_and, and_true]) <;> omega)) | (rewrite [I.ln]) | (rewrite [I.getN]; rotate_left; focus ((try simp only [K.df, I.df, true_and, and_true]) <;> omega)) | (rewrite [I.apo]; rotate_left; focus ((try simp only [K.df, I.df, true_and, and_true]) <;> omega)) | (rewrite [K.ltT]; rotate_left; focus ((try simp only [K.df, I.df, true_and, and_true]) <;> omega)) | (rewrite [K.gtT]; rotate_left; focus ((try simp only [K.df, I.df, true_and, and_true]) <;> omega)) | (rewrite [K.neF]; rotate_left; focus ((try simp only [K.df, I.df, true_and, and_true]) <;> omega))); (try (conv => lhs; cbv)))); (exact rfl))) ?_
          refine headQ_ofH (by ((try (conv => lhs; cbv)); (exact rfl))) ?_
          refine ⟨him, f2, o2, n2, p + x + 1, _, _, _, rfl, ?_, fun h => by omega, fun _ => ?_, ?_, ?_, hf2, ?_, ?_⟩
          · rw [K.pl_]; omega
          · rw [I.ix_, I.sn_, K.pl_ J, show (J + 1 - 1).toNat = l.length by omega]
            simp only [List.getD_eq_getElem?_getD, List.getElem?_append_right (Nat.le_refl _), Nat.sub_self, List.getElem?_cons_zero, Option.getD_some]
            omega
          · rw [I.ll_]
          · rw [I.sn_, List.length_append, hli]; rfl
          · omega
          · rw [show m - (i + 1) = m - i - 1 by omega, I.sn_]
            exact hgo
        | er f2 e2 =>
          have hf2 : e2 ≠ 0 := hf2
          have hx0 : x = 0 := hr2 hf2
          rw [if_neg (show ¬ (RS.er f2 e2).err = 0 from hf2)] at hgo
          rw [← hgo]
          dsimp only [RS.isOk, cond_true, cond_false, rdR, RS.err, risF, risB] at k2 ⊢
          refine wpV_ofH (by ((try (conv => lhs; cbv)); (repeat ((first | (rewrite [k2]) | (rewrite [eL]) | (rewrite [K.subl]; rotate_left; focus ((try simp only [K.df, I.df, true_and, and_true]) <;> omega)) | (rewrite [K.sub]; rotate_left; focus ((try simp only [K.df, I.df, true_and, and_true]) <;> omega)) | (rewrite [K.at_]; rotate_left; focus ((try simp only [K.df, I.df, true_and, and_true]) <;> omega)) | (rewrite [I.getN]; rotate_left; focus ((try simp only [K.df, I.df, true_and, and_true]) <;> omega)) | (rewrite [K.ltT]; rotate_left; focus ((try simp only [K.df, I.df, true_and, and_true]) <;> omega)) | (rewrite [K.gtT]; rotate_left; focus ((try simp only [K.df, I.df, true_and, and_true]) <;> omega)) | (rewrite [K.neT]; rotate_left; focus ((try simp only [K.df, I.df, true_and, and_true]) <;> omega))); (try (conv => lhs; cbv)))); (exact rfl))) ?_
          show finQ _ _ _ _ _
          (show finV _ _ _ = some _; ((try (conv => lhs; cbv)); (try (with_reducible rfl))); (try rfl))
    · obtain rfl : i = m := by omega
      rw [Nat.sub_self, risGo] at hgo
      rw [← hgo]
      dsimp only [RS.isOk, cond_true, cond_false, rdR, RS.err, risF, risB]
      rw [hEI, ← hln]
      refine wpV_ofH (by ((try (conv => lhs; cbv)); (repeat ((first | (rewrite [K.ltF]; rotate_left; focus ((try simp only [K.df, I.df, true_and, and_true]) <;> omega))); (try (conv => lhs; cbv)))); (exact rfl))) ?_
      show wpV _ _ _ _ _ _
      refine wpV_ofH (by ((try (conv => lhs; cbv)); (exact rfl))) ?_
      (show finV _ _ _ = some _; ((try (conv => lhs; cbv)); (try (with_reducible rfl))); (try rfl))
end Go.Proofs.YtanpphoehajcgaaGreat
