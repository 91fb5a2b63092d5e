/- A reader reads a number: gone through. -/
import Derived.Test.YtinobfilomhhhaaCGH
set_option linter.unusedSimpArgs false
set_option linter.unusedVariables false
set_option maxRecDepth 100000
set_option maxHeartbeats 1000000
set_option cbv.maxSteps 10000000
namespace Go.Proofs.Ytinobfilomhhhaa
open Go GoV

abbrev rawF : Option Nat → FV
  | none => .tup [(false, [.iv (.int .u64 0)]), (false, [.iv (.bool false)])]
  | some x => .tup [(false, [.iv (.int .u64 (x : Int))]), (false, [.iv (.bool true)])]
theorem n95 (bs : List Nat) (hb : ∀ b, b ∈ bs → b < 256) (s : RS) (hs : s.fits bs.length) : Pn 12 95 [rp] (rdS s.isOk (by8 bs) s) (rawF (rawS bs s).1) (rdS s.isOk (by8 bs) (rawS bs s).2) := by
  refine playN 11 rfl rfl fun A call hA hcall => ?_
  obtain ⟨pl, mi, ml, nt, tn, ad, sb, K⟩ := kit hA
  obtain ⟨E, ix, sn, ll, cc, sg, B⟩ := lkit hA K (0 : Nat) (fun b => [.int .u8 (nt b)]) 1
  have hes : (by8 bs).length = bs.length := by8_len bs
  have kt : ∀ (J : Int) (j : Nat) (s : RS), J = j → s.fits bs.length → call 97 [rp, i64 J] (rdS s.isOk (by8 bs) s) = some (takeF (by8 bs) j (takeS j s).1, rdS s.isOk (by8 bs) (takeS j s).2) := fun J j s hJ h => by rw [hcall, hJ]; exact n97 _ _ _ (by rw [hes]; exact h) 11 (by omega)
  have k1 := kt 1 1 s rfl hs
  cases s with
  | er f x =>
    dsimp only [RS.isOk, cond_true, cond_false, rdS, takeS, takeF, rawS, rawF] at k1 ⊢
    generalize by8 bs = es at *
    refine wpV_ofH (by ((try (conv => lhs; cbv)); (repeat ((first | (rewrite [k1])); (try (conv => lhs; cbv)))); (exact rfl))) ?_
    (show finV _ _ _ = some _; ((try (conv => lhs; cbv)); (try (with_reducible rfl))); (try rfl))
  | ok f o n =>
    have hs : o + n = bs.length := hs
    by_cases h0 : n = 0
    · subst h0
      dsimp only [RS.isOk, cond_true, cond_false, rdS, takeS, takeF, rawS, rawF] at k1 ⊢
      rw [if_pos (by decide)] at k1
      rw [if_pos rfl]
      dsimp only [RS.isOk, cond_true, cond_false, rdS, takeS, takeF, rawS, rawF] at k1 ⊢
      generalize by8 bs = es at *
      refine wpV_ofH (by ((try (conv => lhs; cbv)); (repeat ((first | (rewrite [k1])); (try (conv => lhs; cbv)))); (exact rfl))) ?_
      (show finV _ _ _ = some _; ((try (conv => lhs; cbv)); (try (with_reducible rfl))); (try rfl))
    · obtain ⟨b, hbe⟩ : ∃ b, b = bs.getD o 0 := ⟨_, rfl⟩
      obtain ⟨k, hk⟩ : ∃ k, k = lo b := ⟨_, rfl⟩
      have hb8 : b < 256 := by rw [hbe]; exact getD_mem hb o
      have hk8 : k ≤ 8 := by rw [hk]; exact lo_le b
      have sg1 : rSeg (by8 bs) o 1 = E [b] := by
        rw [B.E_, hbe]
        unfold rSeg by8
        rw [List.drop_eq_getElem_cons (by simp; omega)]
        simp only [List.take_succ_cons, List.take_zero, List.getElem_map, List.map_cons, List.map_nil, K.nt_]
        rw [List.getD_eq_getElem?_getD, List.getElem?_eq_getElem (by omega)]; rfl
      obtain ⟨L, hL, hL8, k3⟩ := n101 (x := 255 - b) (by omega)
      have k3 := k3 11 (by omega)
      rw [lo_len hb8 hL hL8, ← hk, ← hcall] at k3
      have nt8 := not8 hA hb8
      have g0 : A .get (E [b]) 0 = some [.int .u8 (nt b)] := by
        rw [B.get (by simp)]; rw [B.ix_]; rfl
      rw [← K.nt_ b] at nt8
      have k2 := kt k k (.ok true (o + 1) (n - 1)) rfl (by show o + 1 + (n - 1) = _; omega)
      dsimp only [RS.isOk, cond_true, cond_false, rdS, takeS, takeF, rawS, rawF] at k1 ⊢
      rw [if_neg (by omega)] at k1
      rw [if_neg h0, ← hbe, ← hk]
      dsimp only [RS.isOk, cond_true, cond_false, rdS, takeS, takeF, rawS, rawF] at k1
      rw [sg1] at k1
      obtain ⟨X, hX⟩ : ∃ X : Nat → Int, ∀ t, X t = (rawP bs o t : Int) := ⟨_, fun _ => rfl⟩
      obtain ⟨M, hM⟩ : ∃ M : Int, M = ((255 / 2 ^ k : Nat) : Int) := ⟨_, rfl⟩
      obtain ⟨T, hT⟩ : ∃ T : Int, T = (hd8 b : Int) := ⟨_, rfl⟩
      have hi8 : k < 8 → A .ar .shr .u8 255 (k : Int) = M ∧ A .ar .and .u8 (nt b) M = T ∧ A .ck .u64 T = X 0 := fun h => by
        rw [hM, hT]
        refine ⟨shrN hA (k := .u8) (a := 255) (j := k) rfl (by show _ ≤ 8; omega), ?_, ?_⟩
        · rw [K.nt_, hk]; exact and255 hA hb8 (by omega)
        · have hlt := hd8_lt hb8
          have hp : 2 ^ (7 - lo b) ≤ 2 ^ 7 := Nat.pow_le_pow_right (by omega) (by omega)
          rw [ckU64 hA (by omega), hX, rawP_0, hbe]
      have lo8 : k = 8 → X 0 = 0 := fun h => by rw [hX, rawP_0, ← hbe]; unfold hd8; rw [if_neg (by omega)]; rfl
      have n1 : A .nn (k : Int) = true := by rw [hA]; simp [real_nn]
      have key : ∀ (Q : Ex → St → Prop) (st : St) (R : St), n ≥ k + 1 → headV false [0, 6, 7, 39, 40, 41] st = some ⟨2, (.one (.ptr 0 0) :: u :: u :: u :: u :: u :: i64 k :: u64 (X 0) :: u :: u :: u :: u :: u :: u :: u :: u :: u :: u :: u :: u :: u :: u :: u :: u :: u :: u :: u :: u :: u :: u :: u :: u :: u :: u :: u :: u :: u :: u :: u :: .one (.iv (.sl true 1 (rSeg (by8 bs) (o + 1) k))) :: i64 k :: i64 0 :: u :: u :: u :: u :: u :: u :: u :: u :: u :: u :: u :: u :: u :: u :: u :: u :: []), rdS true (by8 bs) (.ok true (o + 1 + k) (n - 1 - k))⟩ →
          (∀ J : Int, Q .normal ⟨2, (.one (.ptr 0 0) :: u :: u :: u :: u :: u :: i64 k :: u64 (X k) :: u :: u :: u :: u :: u :: u :: u :: u :: u :: u :: u :: u :: u :: u :: u :: u :: u :: u :: u :: u :: u :: u :: u :: u :: u :: u :: u :: u :: u :: u :: u :: .one (.iv (.sl true 1 (rSeg (by8 bs) (o + 1) k))) :: i64 k :: i64 J :: bl false :: u :: u :: u :: u :: u :: u :: u :: u :: u :: u :: u :: u :: u :: u :: u :: []), rdS true (by8 bs) (.ok true (o + 1 + k) (n - 1 - k))⟩) → wpV A call (iterN 11) (.block 0 (.loop false [0, 6, 7, 39, 40, 41] l95_0)) st Q := by
        intro Q st0 R hn hst hQ
        apply wpV_block
        have gS : ∀ (J : Int), 0 ≤ J ∧ J < k → A .get (rSeg (by8 bs) (o + 1) k) J = some [.int .u8 (nt (bs.getD (o + 1 + J.toNat) 0))] := fun J hJ => by
          rw [hA, real_get, if_pos hJ.1]
          unfold rSeg by8
          rw [List.getElem?_take, if_pos (by omega), List.getElem?_drop, List.getElem?_map, List.getElem?_eq_getElem (by omega), K.nt_, List.getD_eq_getElem?_getD, List.getElem?_eq_getElem (by omega)]
          rfl
        generalize rSeg (by8 bs) (o + 1) k = S at *
        generalize by8 bs = es at *
        obtain ⟨KK, hKK⟩ : ∃ KK : Int, KK = k := ⟨_, rfl⟩
        rw [← hKK] at hst gS hQ
        dsimp only [RS.isOk, cond_true, cond_false, rdS] at hst hQ
        generalize o + 1 + k = o2 at *
        generalize n - 1 - k = n2 at *
        refine wpV_loop k (fun i st => ∃ J : Int, st = ⟨2, (.one (.ptr 0 0) :: u :: u :: u :: u :: u :: i64 KK :: u64 (X i) :: u :: u :: u :: u :: u :: u :: u :: u :: u :: u :: u :: u :: u :: u :: u :: u :: u :: u :: u :: u :: u :: u :: u :: u :: u :: u :: u :: u :: u :: u :: u :: .one (.iv (.sl true 1 S)) :: i64 KK :: i64 J :: u :: u :: u :: u :: u :: u :: u :: u :: u :: u :: u :: u :: u :: u :: u :: u :: []), [.var false [.slo 1 o2 n2, .iv (.int .i64 0), .iv (.bool true)], .arr true false 1 es]⟩ ∧ J = i) (by omega) hst ⟨0, rfl, rfl⟩ ?_
        rintro i hi st ⟨J, rfl, hJ⟩
        by_cases him : i < k
        · have hr := rawP_succ (bs := bs) (o := o) (i := i) (by omega)
          have hlt := rawP_lt hb o (i := i) (by rw [← hbe, ← hk]; exact him)
          have hc := getD_mem hb (o + 1 + i)
          have hJ' : J.toNat = i := by omega
          have g1 := gS J (by omega)
          rw [hJ'] at g1
          have s1 : A .ar .shl .u64 (X i) 8 = ((rawP bs o i * 256 : Nat) : Int) := by rw [hX]; exact shlU hA (by omega)
          obtain ⟨Y, hY⟩ : ∃ Y : Int, Y = ((rawP bs o i * 256 : Nat) : Int) := ⟨_, rfl⟩
          have s2 : A .ar .or .u64 Y (nt (bs.getD (o + 1 + i) 0)) = X (i + 1) := by rw [hY, K.nt_, orU hA (by omega) hc, hX, hr]
          have u1 : A .ck .u64 (nt (bs.getD (o + 1 + i) 0)) = nt (bs.getD (o + 1 + i) 0) := K.ckU (by rw [K.nt_]; omega)
          have n8 : A .nn 8 = true := by rw [hA]; rfl
          rw [← hY] at s1
          clear hY
          generalize nt (bs.getD (o + 1 + i) 0) = V at *
          generalize X (i + 1) = X1 at *
          generalize X i = X0 at *
          refine wpV_ofH (by ((try (conv => lhs; cbv)); (repeat ((first | (rewrite [g1]) | (rewrite [s1]) | (rewrite [s2]) | (rewrite [u1]) | (rewrite [n8]) | (rewrite [K.add]; rotate_left; focus ((try simp only [K.df, B.df, true_and, and_true]) <;> omega)) | (rewrite [K.ltT]; rotate_left; focus ((try simp only [K.df, B.df, true_and, and_true]) <;> omega))); (try (conv => lhs; cbv)))); (exact rfl))) ?_
          refine headQ_ofH (by ((try (conv => lhs; cbv)); (exact rfl))) ?_
          refine ⟨him, _, rfl, ?_⟩
          rw [K.pl_]; omega
        · obtain rfl : i = k := by omega
          generalize X i = X0 at *
          refine wpV_ofH (by ((try (conv => lhs; cbv)); (repeat ((first | (rewrite [K.ltF]; rotate_left; focus ((try simp only [K.df, B.df, true_and, and_true]) <;> omega))); (try (conv => lhs; cbv)))); (exact rfl))) ?_
          exact hQ J
      have vk : rawV bs o = rawP bs o k := by unfold rawV rawP; rw [← hbe, hk]
      have vlt : rawP bs o k < 2 ^ 64 := by rw [← vk]; exact rawV_lt hb o
      have k4 := n88 vlt 11 (by omega)
      rw [← hcall, ← hX] at k4
      have k5 : ∀ f o n, o + n = bs.length → call 96 [rp, i64 3] (rdS true (by8 bs) (.ok f o n)) = some (.tup [], rdS true (by8 bs) (.er f 3)) := fun f o n h => by rw [hcall]; exact n96 _ (.ok f o n) (by decide) (by rw [hes]; exact h) 11 (by omega)
      have k5 := k5 true (o + 1 + k) (n - 1 - k)
      rw [vk]
      have c8 : (k < 8 ∧ A .cmp .lss (k : Int) 8 = true) ∨ (k = 8 ∧ A .cmp .lss (k : Int) 8 = false) := by
        by_cases h : k < 8
        · exact .inl ⟨h, K.ltT (by omega)⟩
        · exact .inr ⟨by omega, K.ltF (by omega)⟩
      by_cases h1 : n < k + 1
      · dsimp only [RS.isOk, cond_true, cond_false, rdS, takeS, takeF] at k2
        rw [if_pos h1]
        rw [if_pos (by omega)] at k2
        dsimp only [RS.isOk, cond_true, cond_false, rdS, takeS, takeF] at k2 ⊢
        clear key k5 k4
        generalize by8 bs = es at *
        generalize o + 1 = oo1 at *
        generalize n - 1 = nn1 at *
        generalize (k : Int) = KK at *
        generalize E [b] = B1 at *
        generalize nt b = b1 at *
        generalize ((255 - b : Nat) : Int) = NB at *
        rcases c8 with ⟨c, c'⟩ | ⟨c, c'⟩
        · obtain ⟨q1, q2, q3⟩ := hi8 c
          refine wpV_ofH (by ((try (conv => lhs; cbv)); (repeat ((first | (rewrite [k1]) | (rewrite [g0]) | (rewrite [nt8]) | (rewrite [k3]) | (rewrite [c']) | (rewrite [q1]) | (rewrite [q2]) | (rewrite [q3]) | (rewrite [n1]) | (rewrite [k2])); (try (conv => lhs; cbv)))); (exact rfl))) ?_
          (show finV _ _ _ = some _; ((try (conv => lhs; cbv)); (try (with_reducible rfl))); (try rfl))
        · refine wpV_ofH (by ((try (conv => lhs; cbv)); (repeat ((first | (rewrite [k1]) | (rewrite [g0]) | (rewrite [nt8]) | (rewrite [k3]) | (rewrite [c']) | (rewrite [k2])); (try (conv => lhs; cbv)))); (exact rfl))) ?_
          (show finV _ _ _ = some _; ((try (conv => lhs; cbv)); (try (with_reducible rfl))); (try rfl))
      · dsimp only [RS.isOk, cond_true, cond_false, rdS, takeS, takeF] at k2
        rw [if_neg h1]
        rw [if_neg (by omega)] at k2
        have k5 := k5 (by omega)
        have key' := key
        have hlen : A .len (rSeg (by8 bs) (o + 1) k) = (k : Int) := by
          rw [hA, real_len]; unfold rSeg; rw [List.length_take, List.length_drop, hes]; congr 1; omega
        have hnd : (nd (rawP bs o k) = k ∧ A .cmp .neq (nd (rawP bs o k) : Int) (k : Int) = false) ∨ (nd (rawP bs o k) ≠ k ∧ A .cmp .neq (nd (rawP bs o k) : Int) (k : Int) = true) := by
          by_cases h : nd (rawP bs o k) = k
          · exact .inl ⟨h, K.neF (by omega)⟩
          · exact .inr ⟨h, K.neT (by omega)⟩
        have hXk : (rawP bs o k : Int) = X k := (hX k).symm
        dsimp only [RS.isOk, cond_true, cond_false, rdS, takeS, takeF] at k2 k5 ⊢ key
        have key := fun Q st h1 h2 => key Q st st (by omega) h1 h2
        clear key'
        generalize (nd (rawP bs o k) : Int) = ND at *
        generalize rSeg (by8 bs) (o + 1) k = S at *
        generalize by8 bs = es at *
        generalize (k : Int) = KK at *
        generalize E [b] = B1 at *
        generalize nt b = b1 at *
        generalize ((255 - b : Nat) : Int) = NB at *
        generalize o + 1 + k = o2 at *
        generalize n - 1 - k = n2 at *
        generalize o + 1 = oo1 at *
        generalize n - 1 = nn1 at *
        generalize X k = XK at *
        generalize hX0 : X 0 = X0 at *
        rcases c8 with ⟨c, c'⟩ | ⟨c, c'⟩
        · obtain ⟨q1, q2, q3⟩ := hi8 c
          apply wpV_seq; refine wpV_ofH (by ((try (conv => lhs; cbv)); (exact rfl))) ?_
          apply wpV_seq; refine wpV_ofH (by ((try (conv => lhs; cbv)); (repeat ((first | (rewrite [k1])); (try (conv => lhs; cbv)))); (exact rfl))) ?_
          apply wpV_seq; refine wpV_ofH (by ((try (conv => lhs; cbv)); (exact rfl))) ?_
          apply wpV_seq; refine wpV_ofH (by ((try (conv => lhs; cbv)); (repeat ((first | (rewrite [g0]) | (rewrite [nt8]) | (rewrite [k3])); (try (conv => lhs; cbv)))); (exact rfl))) ?_
          apply wpV_seq; refine wpV_ofH (by ((try (conv => lhs; cbv)); (exact rfl))) ?_
          apply wpV_seq; refine wpV_ofH (by ((try (conv => lhs; cbv)); (repeat ((first | (rewrite [c']) | (rewrite [g0]) | (rewrite [q1]) | (rewrite [q2]) | (rewrite [q3]) | (rewrite [n1])); (try (conv => lhs; cbv)))); (exact rfl))) ?_
          apply wpV_seq; refine wpV_ofH (by ((try (conv => lhs; cbv)); (repeat ((first | (rewrite [k2])); (try (conv => lhs; cbv)))); (exact rfl))) ?_
          apply wpV_seq; refine wpV_ofH (by ((try (conv => lhs; cbv)); (exact rfl))) ?_
          apply wpV_seq; apply wpV_seq; refine wpV_ofH (by ((try (conv => lhs; cbv)); (repeat ((first | (rewrite [hlen])); (try (conv => lhs; cbv)))); (exact rfl))) ?_
          refine key _ _ (by ((try (conv => lhs; cbv)); (try (with_reducible rfl)))) ?_
          intro J
          show wpV _ _ _ _ _ _
          rcases hnd with ⟨e, e'⟩ | ⟨e, e'⟩
          · rw [if_pos e]
            dsimp only [RS.isOk, cond_true, cond_false, rdS, rawF]
            refine wpV_ofH (by ((try (conv => lhs; cbv)); (repeat ((first | (rewrite [k4]) | (rewrite [e'])); (try (conv => lhs; cbv)))); (exact rfl))) ?_
            (show finV _ _ _ = some _; ((try (conv => lhs; cbv)); (repeat ((first | (rewrite [hXk])); (try (conv => lhs; cbv)))); (try (with_reducible rfl))); (try rfl))
          · rw [if_neg e]
            dsimp only [RS.isOk, cond_true, cond_false, rdS, rawF]
            refine wpV_ofH (by ((try (conv => lhs; cbv)); (repeat ((first | (rewrite [k4]) | (rewrite [e']) | (rewrite [k5])); (try (conv => lhs; cbv)))); (exact rfl))) ?_
            (show finV _ _ _ = some _; ((try (conv => lhs; cbv)); (try (with_reducible rfl))); (try rfl))
        · have z := lo8 c
          rw [z] at key
          apply wpV_seq; refine wpV_ofH (by ((try (conv => lhs; cbv)); (exact rfl))) ?_
          apply wpV_seq; refine wpV_ofH (by ((try (conv => lhs; cbv)); (repeat ((first | (rewrite [k1])); (try (conv => lhs; cbv)))); (exact rfl))) ?_
          apply wpV_seq; refine wpV_ofH (by ((try (conv => lhs; cbv)); (exact rfl))) ?_
          apply wpV_seq; refine wpV_ofH (by ((try (conv => lhs; cbv)); (repeat ((first | (rewrite [g0]) | (rewrite [nt8]) | (rewrite [k3])); (try (conv => lhs; cbv)))); (exact rfl))) ?_
          apply wpV_seq; refine wpV_ofH (by ((try (conv => lhs; cbv)); (exact rfl))) ?_
          apply wpV_seq; refine wpV_ofH (by ((try (conv => lhs; cbv)); (repeat ((first | (rewrite [c'])); (try (conv => lhs; cbv)))); (exact rfl))) ?_
          apply wpV_seq; refine wpV_ofH (by ((try (conv => lhs; cbv)); (repeat ((first | (rewrite [k2])); (try (conv => lhs; cbv)))); (exact rfl))) ?_
          apply wpV_seq; refine wpV_ofH (by ((try (conv => lhs; cbv)); (exact rfl))) ?_
          apply wpV_seq; apply wpV_seq; refine wpV_ofH (by ((try (conv => lhs; cbv)); (repeat ((first | (rewrite [hlen])); (try (conv => lhs; cbv)))); (exact rfl))) ?_
          refine key _ _ (by ((try (conv => lhs; cbv)); (try (with_reducible rfl)))) ?_
          intro J
          show wpV _ _ _ _ _ _
          rcases hnd with ⟨e, e'⟩ | ⟨e, e'⟩
          · rw [if_pos e]
            dsimp only [RS.isOk, cond_true, cond_false, rdS, rawF]
            refine wpV_ofH (by ((try (conv => lhs; cbv)); (repeat ((first | (rewrite [k4]) | (rewrite [e'])); (try (conv => lhs; cbv)))); (exact rfl))) ?_
            (show finV _ _ _ = some _; ((try (conv => lhs; cbv)); (repeat ((first | (rewrite [hXk])); (try (conv => lhs; cbv)))); (try (with_reducible rfl))); (try rfl))
          · rw [if_neg e]
            dsimp only [RS.isOk, cond_true, cond_false, rdS, rawF]
            refine wpV_ofH (by ((try (conv => lhs; cbv)); (repeat ((first | (rewrite [k4]) | (rewrite [e']) | (rewrite [k5])); (try (conv => lhs; cbv)))); (exact rfl))) ?_
            (show finV _ _ _ = some _; ((try (conv => lhs; cbv)); (try (with_reducible rfl))); (try rfl))
end Go.Proofs.Ytinobfilomhhhaa
