/- The reference's bytes of a number: gone through. -/
import Derived.Test.YtlljgefgbglmbaaCGH
set_option linter.unusedSimpArgs false
set_option linter.unusedVariables false
set_option maxRecDepth 100000
set_option maxHeartbeats 1000000
set_option cbv.maxSteps 10000000
namespace Go.Proofs.Ytlljgefgbglmbaa
open Go GoV

theorem nd_gt {x i : Nat} (hi : i < 8) : i < nd x ↔ 2 ^ (7 + 7 * i) ≤ x := by
  have : i = 0 ∨ i = 1 ∨ i = 2 ∨ i = 3 ∨ i = 4 ∨ i = 5 ∨ i = 6 ∨ i = 7 := by omega
  rcases this with rfl | rfl | rfl | rfl | rfl | rfl | rfl | rfl
  all_goals
    simp only [Nat.reduceMul, Nat.reduceAdd]
    unfold nd
    repeat' split
    all_goals first | omega | (simp only [Nat.reducePow] at *; omega)
theorem n66 {x : Nat} (hx : x < 2 ^ 64) : Pn 11 66 [u64 x] [] (.one (.slo 0 0 (enc x).length)) [.arr false false 1 (by8 (enc x))] := by
  refine playN 10 rfl rfl fun A call hA hcall => ?_
  obtain ⟨pl, mi, ml, nt, tn, ad, sb, K⟩ := kit hA
  obtain ⟨E, ix, sn, ll, cc, sg, B⟩ := lkit hA K (0 : Nat) (fun b => [.int .u8 (nt b)]) 1
  have h8 := nd_le x
  obtain ⟨k, hk⟩ : ∃ k, k = nd x := ⟨_, rfl⟩
  obtain ⟨X, hX⟩ : ∃ X : Int, X = x := ⟨_, rfl⟩
  have hE : ∀ l, by8 l = E l := fun l => by rw [B.E_]; exact (by8E K.nt_ l).symm
  have sh : ∀ (J : Int) (j : Nat), J = j → j ≤ 64 → A .ar .shr .u64 X J = nt (x / 2 ^ j) := fun J j h hj => by rw [hX, K.nt_]; exact shrN hA (k := .u64) h (by show _ ≤ 64; omega)
  have nnJ : ∀ J : Int, 0 ≤ J → A .nn J = true := fun J h => K.nn h
  rw [hE, ← hX]
  apply wpV_seq; refine wpV_ofH (by ((try (conv => lhs; cbv)); (exact rfl))) ?_
  apply wpV_seq; refine wpV_ofH (by ((try (conv => lhs; cbv)); (exact rfl))) ?_
  apply wpV_seq; apply wpV_seq; refine wpV_ofH (by ((try (conv => lhs; cbv)); (exact rfl))) ?_
  apply wpV_block
  refine wpV_loop 9 (fun i st => ∃ (q J : Int), st = ⟨0, (u64 X :: u :: u :: i64 q :: u :: u :: u :: u :: u :: i64 J :: u :: u :: u :: u :: u :: u :: u :: u :: u :: u :: u :: u :: u :: u :: u :: u :: u :: u :: u :: u :: u :: u :: u :: u :: u :: u :: u :: u :: u :: u :: u :: u :: u :: u :: u :: u :: u :: u :: u :: u :: u :: u :: u :: u :: u :: u :: u :: u :: u :: u :: u :: u :: u :: []), []⟩ ∧ J = i ∧ q = ((min i k : Nat) : Int)) (by omega) (by ((try (conv => lhs; cbv)); (try (with_reducible rfl)))) ⟨0, 0, rfl, rfl, by simp⟩ ?_
  rintro i hi st ⟨q, J, rfl, hJ, hq⟩
  by_cases him : i < 9
  · by_cases hi8 : i < 8
    · have g := nd_gt (x := x) hi8
      have s1 := sh (pl 7 (ml 7 J)) (7 + 7 * i) (by rw [K.pl_, K.ml_]; omega) (by omega)
      have dv : x / 2 ^ (7 + 7 * i) = 0 ↔ ¬ 2 ^ (7 + 7 * i) ≤ x := by
        rw [Nat.div_eq_zero_iff]
        have := Nat.two_pow_pos (7 + 7 * i)
        omega
      generalize 2 ^ (7 + 7 * i) = W at *
      generalize x / W = Y at *
      by_cases hc : i < k
      · refine wpV_ofH (by ((try (conv => lhs; cbv)); (repeat ((first | (rewrite [s1]) | (rewrite [K.mulr]; rotate_left; focus ((try simp only [K.df, B.df, true_and, and_true]) <;> omega)) | (rewrite [K.add]; rotate_left; focus ((try simp only [K.df, B.df, true_and, and_true]) <;> omega)) | (rewrite [K.mul]; rotate_left; focus ((try simp only [K.df, B.df, true_and, and_true]) <;> omega)) | (rewrite [K.nn]; rotate_left; focus ((try simp only [K.df, B.df, true_and, and_true]) <;> omega)) | (rewrite [K.ltT]; rotate_left; focus ((try simp only [K.df, B.df, true_and, and_true]) <;> omega)) | (rewrite [K.neT]; rotate_left; focus ((try simp only [K.df, B.df, true_and, and_true]) <;> omega))); (try (conv => lhs; cbv)))); (exact rfl))) ?_
        refine headQ_ofH (by ((try (conv => lhs; cbv)); (exact rfl))) ?_
        refine ⟨him, _, _, rfl, ?_, ?_⟩
        · rw [K.pl_]; omega
        · rw [K.pl_]; omega
      · refine wpV_ofH (by ((try (conv => lhs; cbv)); (repeat ((first | (rewrite [s1]) | (rewrite [K.mulr]; rotate_left; focus ((try simp only [K.df, B.df, true_and, and_true]) <;> omega)) | (rewrite [K.add]; rotate_left; focus ((try simp only [K.df, B.df, true_and, and_true]) <;> omega)) | (rewrite [K.mul]; rotate_left; focus ((try simp only [K.df, B.df, true_and, and_true]) <;> omega)) | (rewrite [K.nn]; rotate_left; focus ((try simp only [K.df, B.df, true_and, and_true]) <;> omega)) | (rewrite [K.ltT]; rotate_left; focus ((try simp only [K.df, B.df, true_and, and_true]) <;> omega)) | (rewrite [K.neF]; rotate_left; focus ((try simp only [K.df, B.df, true_and, and_true]) <;> omega))); (try (conv => lhs; cbv)))); (exact rfl))) ?_
        refine headQ_ofH (by ((try (conv => lhs; cbv)); (exact rfl))) ?_
        refine ⟨him, _, _, rfl, ?_, ?_⟩
        · rw [K.pl_]; omega
        · omega
    · refine wpV_ofH (by ((try (conv => lhs; cbv)); (repeat ((first | (rewrite [K.add]; rotate_left; focus ((try simp only [K.df, B.df, true_and, and_true]) <;> omega)) | (rewrite [K.ltT]; rotate_left; focus ((try simp only [K.df, B.df, true_and, and_true]) <;> omega)) | (rewrite [K.ltF]; rotate_left; focus ((try simp only [K.df, B.df, true_and, and_true]) <;> omega))); (try (conv => lhs; cbv)))); (exact rfl))) ?_
      refine headQ_ofH (by ((try (conv => lhs; cbv)); (exact rfl))) ?_
      refine ⟨him, _, _, rfl, ?_, ?_⟩
      · rw [K.pl_]; omega
      · omega
  · obtain rfl : i = 9 := by omega
    have hq : q = k := by omega
    refine wpV_ofH (by ((try (conv => lhs; cbv)); (repeat ((first | (rewrite [K.ltF]; rotate_left; focus ((try simp only [K.df, B.df, true_and, and_true]) <;> omega))); (try (conv => lhs; cbv)))); (exact rfl))) ?_
    show wpV _ _ _ _ _ _
    apply wpV_seq; refine wpV_ofH (by ((try (conv => lhs; cbv)); (exact rfl))) ?_
    apply wpV_seq; apply wpV_seq; refine wpV_ofH (by ((try (conv => lhs; cbv)); (exact rfl))) ?_
    apply wpV_block
    refine wpV_loop k (fun i st => ∃ (F J : Int), st = ⟨0, (u64 X :: u :: u :: i64 q :: u :: i64 F :: u :: u :: u :: u :: u :: u :: u :: u :: u :: u :: u :: u :: u :: u :: u :: u :: u :: u :: u :: i64 q :: i64 J :: u :: u :: u :: u :: u :: u :: u :: u :: u :: u :: u :: u :: u :: u :: u :: u :: u :: u :: u :: u :: u :: u :: u :: u :: u :: u :: u :: u :: u :: u :: u :: u :: u :: u :: u :: u :: []), []⟩ ∧ J = i ∧ F = 256 - 2 ^ (8 - i)) (by omega) (by ((try (conv => lhs; cbv)); (try (with_reducible rfl)))) ⟨0, 0, rfl, rfl, rfl⟩ ?_
    rintro i hi st ⟨F, J2, rfl, hJ2, hF⟩
    by_cases him : i < k
    · have s1 : A .ar .shr .i64 128 J2 = 2 ^ (7 - i) := by
        have := shrN hA (k := .i64) (a := 128) (j := i) (b := J2) hJ2 (by show _ ≤ 64; omega)
        rw [show ((128 : Nat) : Int) = 128 from rfl] at this
        rw [this]
        have : i = 0 ∨ i = 1 ∨ i = 2 ∨ i = 3 ∨ i = 4 ∨ i = 5 ∨ i = 6 ∨ i = 7 := by omega
        rcases this with rfl | rfl | rfl | rfl | rfl | rfl | rfl | rfl <;> rfl
      have p1 : (2 : Int) ^ (7 - i) + 2 ^ (8 - (i + 1)) = 2 ^ (8 - i) ∧ (2 : Int) ^ (7 - i) ≤ 128 ∧ (0 : Int) ≤ 2 ^ (7 - i) := by
        have : i = 0 ∨ i = 1 ∨ i = 2 ∨ i = 3 ∨ i = 4 ∨ i = 5 ∨ i = 6 ∨ i = 7 := by omega
        rcases this with rfl | rfl | rfl | rfl | rfl | rfl | rfl | rfl <;> decide
      have p2 : (0 : Int) ≤ 2 ^ (8 - i) := Int.le_of_lt (Int.pow_pos (by omega))
      have p3 : (2 : Int) ^ (8 - i) ≤ 256 := by
        have : i = 0 ∨ i = 1 ∨ i = 2 ∨ i = 3 ∨ i = 4 ∨ i = 5 ∨ i = 6 ∨ i = 7 := by omega
        rcases this with rfl | rfl | rfl | rfl | rfl | rfl | rfl | rfl <;> decide
      generalize (2 : Int) ^ (7 - i) = U at *
      generalize (2 : Int) ^ (8 - (i + 1)) = U1 at *
      generalize (2 : Int) ^ (8 - i) = U2 at *
      refine wpV_ofH (by ((try (conv => lhs; cbv)); (repeat ((first | (rewrite [s1]) | (rewrite [K.add]; rotate_left; focus ((try simp only [K.df, B.df, true_and, and_true]) <;> omega)) | (rewrite [K.nn]; rotate_left; focus ((try simp only [K.df, B.df, true_and, and_true]) <;> omega)) | (rewrite [K.ltT]; rotate_left; focus ((try simp only [K.df, B.df, true_and, and_true]) <;> omega))); (try (conv => lhs; cbv)))); (exact rfl))) ?_
      refine headQ_ofH (by ((try (conv => lhs; cbv)); (exact rfl))) ?_
      refine ⟨him, _, _, rfl, ?_, ?_⟩
      · rw [K.pl_]; omega
      · rw [K.pl_]; omega
    · obtain rfl : i = k := by omega
      have hF0 : F = ((256 - 2 ^ (8 - i) : Nat) : Int) := by
        rw [hF]
        have : i = 0 ∨ i = 1 ∨ i = 2 ∨ i = 3 ∨ i = 4 ∨ i = 5 ∨ i = 6 ∨ i = 7 ∨ i = 8 := by omega
        rcases this with rfl | rfl | rfl | rfl | rfl | rfl | rfl | rfl | rfl <;> rfl
      have hle : 256 - 2 ^ (8 - i) ≤ 255 := by have := Nat.two_pow_pos (8 - i); omega
      have fl := fst8_lt hx
      have fdef : fst8 x = (256 - 2 ^ (8 - i)) + x / 256 ^ i := by rw [hk]; rfl
      have fin : ∀ (st0 : St), headV false [0, 3, 7, 46, 47] st0 = some ⟨0, (u64 X :: u :: u :: i64 q :: u :: u :: u :: .one (.slo 0 0 1) :: u :: u :: u :: u :: u :: u :: u :: u :: u :: u :: u :: u :: u :: u :: u :: u :: u :: u :: u :: u :: u :: u :: u :: u :: u :: u :: u :: u :: u :: u :: u :: u :: u :: u :: u :: u :: u :: u :: i64 q :: i64 0 :: u :: u :: u :: u :: u :: u :: u :: u :: u :: u :: u :: u :: u :: u :: u :: []), [.arr false false 1 (E [fst8 x])]⟩ → wpV A call (iterN 10) (.block 4 (.loop false [0, 3, 7, 46, 47] l66_2)) st0 (seqQ A call (iterN 10) (.seq (.region false [⟨some 62, .mov none (.t 7), [], none⟩,
    ⟨some 2, .mov none (.t 62), [], none⟩])
  (.ret)) (finQ A v66 (.one (.slo 0 0 (enc x).length), [.arr false false 1 (E (enc x))]))) := by
        intro st0 hst
        apply wpV_block
        refine wpV_loop i (fun t st => ∃ (l : List Nat) (J : Int) (ln : Nat), st = ⟨0, (u64 X :: u :: u :: i64 q :: u :: u :: u :: .one (.slo 0 0 ln) :: u :: u :: u :: u :: u :: u :: u :: u :: u :: u :: u :: u :: u :: u :: u :: u :: u :: u :: u :: u :: u :: u :: u :: u :: u :: u :: u :: u :: u :: u :: u :: u :: u :: u :: u :: u :: u :: u :: i64 q :: i64 J :: u :: u :: u :: u :: u :: u :: u :: u :: u :: u :: u :: u :: u :: u :: u :: []), [.arr false false 1 (E l)]⟩ ∧ J = t ∧ ln = l.length ∧ l = pre x (1 + t)) (by omega) hst ⟨[fst8 x], 0, 1, rfl, rfl, rfl, (pre_one x).symm⟩ ?_
        rintro t ht st ⟨l, J, ln, rfl, hJt, hln, hl⟩
        have hll : l.length = 1 + t := by rw [hl, pre_len (by omega)]
        by_cases htm : t < i
        · obtain ⟨y, hy⟩ : ∃ y, y = x / 256 ^ (nd x - 1 - t) % 256 := ⟨_, rfl⟩
          have s1 := sh (ml 8 (mi (mi q 1) J)) (8 * (nd x - 1 - t)) (by rw [K.ml_, K.mi_, K.mi_]; omega) (by omega)
          have u3 : A .ck .u8 (nt (x / 2 ^ (8 * (nd x - 1 - t)))) = nt y := by
            rw [K.nt_ (x / _), ckU8 hA, hy, K.nt_, show (256 : Nat) ^ (nd x - 1 - t) = 2 ^ (8 * (nd x - 1 - t)) by rw [Nat.pow_mul]]
          have nx := pre_next (x := x) (t := t) (by omega)
          rw [← hy, ← hl] at nx
          generalize nt (x / 2 ^ (8 * (nd x - 1 - t))) = Y at *
          refine wpV_ofH (by ((try (conv => lhs; cbv)); (repeat ((first | (rewrite [s1]) | (rewrite [u3]) | (rewrite [K.addN]) | (rewrite [K.subl]; rotate_left; focus ((try simp only [K.df, B.df, true_and, and_true]) <;> omega)) | (rewrite [K.subr]; rotate_left; focus ((try simp only [K.df, B.df, true_and, and_true]) <;> omega)) | (rewrite [K.add]; rotate_left; focus ((try simp only [K.df, B.df, true_and, and_true]) <;> omega)) | (rewrite [K.sub]; rotate_left; focus ((try simp only [K.df, B.df, true_and, and_true]) <;> omega)) | (rewrite [K.mul]; rotate_left; focus ((try simp only [K.df, B.df, true_and, and_true]) <;> omega)) | (rewrite [K.nn]; rotate_left; focus ((try simp only [K.df, B.df, true_and, and_true]) <;> omega)) | (rewrite [B.ln]) | (rewrite [B.apo]; rotate_left; focus ((try simp only [K.df, B.df, true_and, and_true]) <;> omega)) | (rewrite [K.ltT]; rotate_left; focus ((try simp only [K.df, B.df, true_and, and_true]) <;> omega))); (try (conv => lhs; cbv)))); (exact rfl))) ?_
          refine headQ_ofH (by ((try (conv => lhs; cbv)); (exact rfl))) ?_
          refine ⟨htm, _, _, _, rfl, ?_, ?_, ?_⟩
          · rw [K.pl_]; omega
          · rw [B.ll_]
          · rw [B.sn_, show 1 + (t + 1) = 1 + t + 1 by omega, nx]
        · obtain rfl : t = i := by omega
          have hlx : l = enc x := by rw [hl, hk, Nat.add_comm, pre_all]
          rw [← hlx, ← hln]
          refine wpV_ofH (by ((try (conv => lhs; cbv)); (repeat ((first | (rewrite [K.ltF]; rotate_left; focus ((try simp only [K.df, B.df, true_and, and_true]) <;> omega))); (try (conv => lhs; cbv)))); (exact rfl))) ?_
          show wpV _ _ _ _ _ _
          refine wpV_ofH (by ((try (conv => lhs; cbv)); (exact rfl))) ?_
          (show finV _ _ _ = some _; ((try (conv => lhs; cbv)); (try (with_reducible rfl))); (try rfl))
      by_cases hi8 : i < 8
      · have s1 := sh (ml 8 q) (8 * i) (by rw [K.ml_]; omega) (by omega)
        have e2 : x / 2 ^ (8 * i) = x / 256 ^ i := by rw [Nat.pow_mul]
        rw [e2] at s1
        obtain ⟨Y, hY⟩ : ∃ Y : Int, Y = ((x / 256 ^ i : Nat) : Int) := ⟨_, rfl⟩
        rw [K.nt_, ← hY] at s1
        have c1 : A .ck .u8 (pl F Y) = nt (fst8 x) := by rw [K.pl_, K.nt_, K.ckB (by omega)]; omega
        have e1 : [[IV.int .u8 (nt (fst8 x))]] = E [fst8 x] := by rw [B.E_]; rfl
        have l1 : ll [fst8 x] = 1 := by rw [B.ll_]; rfl
        generalize fst8 x = F8 at *
        refine wpV_ofH (by ((try (conv => lhs; cbv)); (repeat ((first | (rewrite [K.ltF]; rotate_left; focus ((try simp only [K.df, B.df, true_and, and_true]) <;> omega))); (try (conv => lhs; cbv)))); (exact rfl))) ?_
        show wpV _ _ _ _ _ _
        apply wpV_seq; refine wpV_ofH (by ((try (conv => lhs; cbv)); (repeat ((first | (rewrite [s1]) | (rewrite [K.ckI]; rotate_left; focus ((try simp only [K.df, B.df, true_and, and_true]) <;> omega)) | (rewrite [K.add]; rotate_left; focus ((try simp only [K.df, B.df, true_and, and_true]) <;> omega)) | (rewrite [K.mul]; rotate_left; focus ((try simp only [K.df, B.df, true_and, and_true]) <;> omega)) | (rewrite [K.nn]; rotate_left; focus ((try simp only [K.df, B.df, true_and, and_true]) <;> omega)) | (rewrite [K.ltT]; rotate_left; focus ((try simp only [K.df, B.df, true_and, and_true]) <;> omega))); (try (conv => lhs; cbv)))); (exact rfl))) ?_
        apply wpV_seq; refine wpV_ofH (by ((try (conv => lhs; cbv)); (repeat ((first | (rewrite [c1]) | (rewrite [e1]) | (rewrite [l1]) | (rewrite [B.ln])); (try (conv => lhs; cbv)))); (exact rfl))) ?_
        apply wpV_seq; apply wpV_seq; refine wpV_ofH (by ((try (conv => lhs; cbv)); (exact rfl))) ?_
        exact fin _ (by ((try (conv => lhs; cbv)); (try (with_reducible rfl))))
      · have e3 : i = 8 := by omega
        have e4 : fst8 x = 256 - 2 ^ (8 - i) := by
          rw [fdef, e3, Nat.div_eq_of_lt (by omega)]
        have c1 : A .ck .u8 F = nt (fst8 x) := by rw [K.nt_, K.ckB (by omega)]; omega
        have e1 : [[IV.int .u8 (nt (fst8 x))]] = E [fst8 x] := by rw [B.E_]; rfl
        have l1 : ll [fst8 x] = 1 := by rw [B.ll_]; rfl
        clear fdef
        generalize fst8 x = F8 at *
        refine wpV_ofH (by ((try (conv => lhs; cbv)); (repeat ((first | (rewrite [K.ltF]; rotate_left; focus ((try simp only [K.df, B.df, true_and, and_true]) <;> omega))); (try (conv => lhs; cbv)))); (exact rfl))) ?_
        show wpV _ _ _ _ _ _
        apply wpV_seq; refine wpV_ofH (by ((try (conv => lhs; cbv)); (repeat ((first | (rewrite [K.mul]; rotate_left; focus ((try simp only [K.df, B.df, true_and, and_true]) <;> omega)) | (rewrite [K.nn]; rotate_left; focus ((try simp only [K.df, B.df, true_and, and_true]) <;> omega)) | (rewrite [K.ltF]; rotate_left; focus ((try simp only [K.df, B.df, true_and, and_true]) <;> omega))); (try (conv => lhs; cbv)))); (exact rfl))) ?_
        apply wpV_seq; refine wpV_ofH (by ((try (conv => lhs; cbv)); (repeat ((first | (rewrite [c1]) | (rewrite [e1]) | (rewrite [l1]) | (rewrite [B.ln])); (try (conv => lhs; cbv)))); (exact rfl))) ?_
        apply wpV_seq; apply wpV_seq; refine wpV_ofH (by ((try (conv => lhs; cbv)); (exact rfl))) ?_
        exact fin _ (by ((try (conv => lhs; cbv)); (try (with_reducible rfl))))
end Go.Proofs.Ytlljgefgbglmbaa
