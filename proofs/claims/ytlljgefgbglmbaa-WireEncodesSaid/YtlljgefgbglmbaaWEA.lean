/- The reference's sum, bit by bit: it is the table's; bytes sealed and opened by the reference: gone through. -/
import Derived.Test.YtlljgefgbglmbaaWTA
set_option linter.unusedSimpArgs false
set_option linter.unusedVariables false
set_option maxRecDepth 100000
set_option maxHeartbeats 4000000
set_option cbv.maxSteps 10000000
namespace Go.Proofs.Ytlljgefgbglmbaa
open Go GoV

def tbN (s : Nat) : Nat := if s % 2 = 1 then s / 2 ^^^ 3988292384 else s / 2
def tbK (s : Nat) : Nat → Nat
  | 0 => s
  | k + 1 => tbN (tbK s k)
theorem tbN_lt {s : Nat} (h : s < 4294967296) : tbN s < 4294967296 := by
  unfold tbN; split
  · exact Nat.xor_lt_two_pow (n := 32) (by omega) (by omega)
  · omega
theorem tbK_lt {s : Nat} (h : s < 4294967296) : ∀ k, tbK s k < 4294967296
  | 0 => h
  | k + 1 => tbN_lt (tbK_lt h k)
theorem xd2 (a b : Nat) : (a ^^^ b) / 2 = a / 2 ^^^ b / 2 := by
  have := @Nat.shiftRight_xor_distrib 1 a b
  simpa [Nat.shiftRight_eq_div_pow] using this
theorem tbN_xor (a b : Nat) : tbN (a ^^^ b) = tbN a ^^^ tbN b := by
  have h := @Nat.xor_mod_two_eq_one a b
  unfold tbN
  rw [xd2]
  by_cases ha : a % 2 = 1 <;> by_cases hb : b % 2 = 1 <;> simp only [ha, hb, iff_self, not_true_eq_false, iff_false, not_false_eq_true, iff_true] at h <;> simp [ha, hb, h]
  · rw [Nat.xor_assoc, Nat.xor_comm 3988292384, Nat.xor_assoc, Nat.xor_self, Nat.xor_zero]
  · rw [Nat.xor_assoc, Nat.xor_assoc, Nat.xor_comm 3988292384]
  · rw [Nat.xor_assoc]
theorem tbK_xor (a b : Nat) : ∀ k, tbK (a ^^^ b) k = tbK a k ^^^ tbK b k
  | 0 => rfl
  | k + 1 => by rw [tbK, tbK_xor a b k, tbN_xor]; rfl
theorem tbN_2 (m : Nat) : tbN (2 * m) = m := by unfold tbN; rw [if_neg (by omega)]; omega
theorem tbK_2 (h : Nat) : tbK (256 * h) 8 = h := by
  have e : ∀ m, tbN (2 * m) = m := tbN_2
  show tbN (tbN (tbN (tbN (tbN (tbN (tbN (tbN (256 * h)))))))) = h
  rw [show 256 * h = 2 * (2 * (2 * (2 * (2 * (2 * (2 * (2 * h))))))) by omega, e, e, e, e, e, e, e, e]
theorem split8 (y : Nat) : 256 * (y / 256) ^^^ y % 256 = y := by
  apply Nat.eq_of_testBit_eq
  intro i
  rw [Nat.testBit_xor, show 256 = 2 ^ 8 from rfl, Nat.testBit_two_pow_mul, Nat.testBit_mod_two_pow, Nat.testBit_div_two_pow]
  by_cases h : i < 8
  · simp [h, show ¬ 8 ≤ i by omega]
  · simp [h, show 8 ≤ i by omega]
theorem tbK_low {l : Nat} (h : l < 256) : tbK l 8 = tG l 8 := by
  have : ∀ l : Fin 256, tbK l.val 8 = tG l.val 8 := by decide +kernel
  exact this ⟨l, h⟩
/-- Eight steps by bits are one by the table. -/
theorem tbK_st {s x : Nat} (hx : x < 256) : tbK (s ^^^ x) 8 = stN s x := by
  have e1 : (s ^^^ x) / 256 = s / 256 := by
    have := @Nat.shiftRight_xor_distrib 8 s x
    simp only [Nat.shiftRight_eq_div_pow, Nat.reducePow] at this
    rw [this, Nat.div_eq_of_lt hx, Nat.xor_zero]
  have e2 : (s ^^^ x) % 256 = s % 256 ^^^ x := by
    have := @Nat.xor_mod_two_pow s x 8
    simp only [Nat.reducePow] at this
    rw [this, Nat.mod_eq_of_lt hx]
  have hl : s % 256 ^^^ x < 256 := Nat.xor_lt_two_pow (n := 8) (by omega) (by omega)
  have h := split8 (s ^^^ x)
  rw [e1, e2] at h
  rw [← h, tbK_xor, tbK_2, tbK_low hl]
  rfl
def bI (s : Int) : Int := if real .ar .rem .u32 s 2 = 1 then xo (real .ar .quo .u32 s 2) 3988292384 else real .ar .quo .u32 s 2
def bIk (s : Int) : Nat → Int
  | 0 => s
  | k + 1 => bI (bIk s k)
def b8I (s x : Int) : Int := bIk (xo s (real .ck .u32 x)) 8
def foldS (f : Int → Int → Int) : Int → List Nat → Int
  | s, [] => s
  | s, x :: r => foldS f (f s x) r
theorem quoN {a b : Nat} (ha : a < 4294967296) : real .ar .quo .u32 (a : Int) (b : Int) = ((a / b : Nat) : Int) := by
  show IntKind.u32.wrap ((a : Int).tdiv (b : Int)) = _
  rw [← Int.ofNat_tdiv]
  have : a / b ≤ a := Nat.div_le_self _ _
  generalize a / b = c at *
  exact wrapU32 (by omega) (by omega)
theorem remN (a : Nat) : real .ar .rem .u32 (a : Int) 2 = ((a % 2 : Nat) : Int) := by
  show ((a : Int).tmod 2) = _
  exact (Int.ofNat_tmod a 2).symm
theorem bI_N {s : Nat} (h : s < 4294967296) : bI (s : Int) = (tbN s : Int) := by
  unfold bI tbN
  have q := quoN (b := 2) h
  rw [remN, show (2 : Int) = ((2 : Nat) : Int) from rfl, q]
  by_cases hb : s % 2 = 1
  · rw [if_pos (by rw [hb]; rfl), if_pos hb]
    exact xoN (a := s / 2) (b := 3988292384) (by omega) (by decide)
  · rw [if_neg (by omega), if_neg hb]
theorem bIk_N {s : Nat} (h : s < 4294967296) : ∀ k, bIk (s : Int) k = (tbK s k : Int)
  | 0 => rfl
  | k + 1 => by rw [bIk, bIk_N h k, bI_N (tbK_lt h k)]; rfl
theorem rSum_N : ∀ {l : List Nat} {s : Nat}, s < 4294967296 → (∀ x, x ∈ l → x < 256) → foldS b8I (s : Int) l = (sGN s l : Int)
  | [], _, _, _ => rfl
  | x :: r, s, h, hx => by
    have h1 := hx x (by simp)
    have h2 := rSum_N (stN_lt (x := x) h) (l := r) fun y hy => hx y (by simp [hy])
    have h3 : s ^^^ x < 4294967296 := Nat.xor_lt_two_pow (n := 32) (by omega) (by omega)
    have e1 : xo (s : Int) (real .ck .u32 (x : Int)) = ((s ^^^ x : Nat) : Int) := by
      rw [ck32 rfl (by omega)]; exact xoN h (by omega)
    have a1 : b8I (s : Int) (x : Int) = bIk ((s ^^^ x : Nat) : Int) 8 := by unfold b8I; exact congrArg (fun z => bIk z 8) e1
    have a2 := bIk_N h3 8
    have a3 : ((tbK (s ^^^ x) 8 : Nat) : Int) = (stN s x : Int) := congrArg Int.ofNat (tbK_st h1)
    have e2 : b8I (s : Int) (x : Int) = (stN s x : Int) := a1.trans (a2.trans a3)
    rw [foldS, e2, h2, sGN]
theorem rSum_I {l : List Nat} (hl : ∀ x, x ∈ l → x < 256) : xo (foldS b8I 4294967295 l) 4294967295 = sumI l := by
  have h := rSum_N (l := l) (s := 4294967295) (by omega) hl
  rw [sumI_N hl, show (4294967295 : Int) = ((4294967295 : Nat) : Int) from rfl, h]
  have := xoN (a := sGN 4294967295 l) (b := 4294967295) (sGN_lt (by omega)) (by omega)
  rw [Nat.xor_comm] at this
  exact this
theorem n57 (b : List Nat) (h8 : ∀ x, x ∈ b → x < 256) (t : Bool) (hl : b.length ≤ 1000000000000000) : Pn (b.length + 1001) 57 [.one (.iv (.sl t 1 (by8 b)))] [] (.one (.iv (.int .u32 (sumI b)))) [] := by
  refine playN (b.length + 1000) rfl rfl fun A call hA hcall => ?_
  obtain ⟨pl, mi, ml, nt, tn, ad, sb, K⟩ := kit hA
  obtain ⟨E, ix, sn, ll, cc, sg, B⟩ := lkit hA K (0 : Nat) (fun b => [.int .u8 (nt b)]) 1
  have hE : ∀ l, by8 l = E l := fun l => by rw [B.E_]; exact (by8E K.nt_ l).symm
  obtain ⟨M, hM⟩ : ∃ M : Int, M = nt (ll b) := ⟨_, rfl⟩
  have hMl : M = b.length := by rw [hM, K.nt_, B.ll_]
  have ln : A .len (E b) = M := by rw [B.len, hM]
  obtain ⟨cv, hcv⟩ : ∃ f : Int → Int, ∀ s, f s = real .ck .u32 s := ⟨_, fun _ => rfl⟩
  obtain ⟨xw, hxw⟩ : ∃ f : Int → Int → Int, ∀ a b, f a b = xo a b := ⟨_, fun _ _ => rfl⟩
  obtain ⟨rm, hrm⟩ : ∃ f : Int → Int, ∀ a, f a = real .ar .rem .u32 a 2 := ⟨_, fun _ => rfl⟩
  obtain ⟨qo, hqo⟩ : ∃ f : Int → Int, ∀ a, f a = real .ar .quo .u32 a 2 := ⟨_, fun _ => rfl⟩
  have e1 : ∀ s, A .ck .u32 s = cv s := fun s => by rw [hA, hcv]
  have e2 : ∀ a b, A .ar .xor .u32 a b = xw a b := fun a b => by rw [hA, hxw]; rfl
  have e3 : ∀ a, A .ar .rem .u32 a 2 = rm a := fun a => by rw [hA, hrm]
  have e4 : ∀ a, A .ar .quo .u32 a 2 = qo a := fun a => by rw [hA, hqo]
  obtain ⟨G, hG⟩ : ∃ G : Int → Nat → Int, ∀ s i, G s i = bIk s i := ⟨_, fun _ _ => rfl⟩
  have G0 : ∀ s, G s 0 = s := fun s => by rw [hG]; rfl
  have Gs : ∀ s i, G s (i + 1) = if rm (G s i) = 1 then xw (qo (G s i)) 3988292384 else qo (G s i) := fun s i => by rw [hG, hG, hrm, hqo, hxw, bIk, bI]
  have Gst : ∀ s x, b8I s x = G (xw s (cv x)) 8 := fun s x => by rw [hG, hxw, hcv, b8I]
  have fin : sumI b = xw (foldS b8I 4294967295 b) 4294967295 := by rw [hxw]; exact (rSum_I h8).symm
  rw [fin, hE]
  generalize hR : foldS b8I 4294967295 b = R
  clear hcv hxw hrm hqo hG fin
  apply wpV_seq; refine wpV_ofH (by ((try (conv => lhs; cbv)); (exact rfl))) ?_
  apply wpV_seq; refine wpV_ofH (by ((try (conv => lhs; cbv)); (exact rfl))) ?_
  apply wpV_seq; apply wpV_seq; refine wpV_ofH (by ((try (conv => lhs; cbv)); (repeat ((first | (rewrite [ln])); (try (conv => lhs; cbv)))); (exact rfl))) ?_
  apply wpV_block
  refine wpV_loop b.length (fun j st => ∃ (J S : Int), st = ⟨0, [u, u, u, .one (.iv (.int .u32 S)), u, u, .one (.iv (.sl t 1 (E b))), i64 M, i64 J, u, u, u, u, u, u, u, u, u, u, u, u, u, u, u, u, u, u, u, u, u], []⟩ ∧ J = j ∧ foldS b8I S (b.drop j) = R) (by omega) (by ((try (conv => lhs; cbv)); (try (with_reducible rfl)))) ⟨0, 4294967295, rfl, rfl, hR⟩ ?_
  rintro j hj st ⟨J, S, rfl, hJ, hgo⟩
  by_cases hjl : j < b.length
  · have hd : b.drop j = ix b J :: b.drop (j + 1) := by
      rw [B.ix_, hJ, Int.toNat_natCast, List.drop_eq_getElem_cons (by omega), List.getD_eq_getElem?_getD, List.getElem?_eq_getElem (by omega)]; rfl
    have g1 := B.get (l := b) (J := J) (by omega)
    rw [hd, foldS, Gst] at hgo
    have hx : ((ix b J : Nat) : Int) = nt (ix b J) := (K.nt_ _).symm
    rw [hx] at hgo
    generalize nt (ix b J) = X at *
    apply wpV_seq; refine wpV_ofH (by ((try (conv => lhs; cbv)); (repeat ((first | (rewrite [K.ltT]; rotate_left; focus ((try simp only [K.df, B.df, true_and, and_true]) <;> omega))); (try (conv => lhs; cbv)))); (exact rfl))) ?_
    apply wpV_seq; refine wpV_ofH (by ((try (conv => lhs; cbv)); (exact rfl))) ?_
    apply wpV_seq
    apply wpV_block
    apply wpV_seq; refine wpV_ofH (by ((try (conv => lhs; cbv)); (repeat ((first | (rewrite [g1])); (try (conv => lhs; cbv)))); (exact rfl))) ?_
    apply wpV_seq; refine wpV_ofH (by ((try (conv => lhs; cbv)); (repeat ((first | (rewrite [e1]) | (rewrite [e2])); (try (conv => lhs; cbv)))); (exact rfl))) ?_
    apply wpV_seq; refine wpV_ofH (by ((try (conv => lhs; cbv)); (exact rfl))) ?_
    generalize xw S (cv X) = s0 at *
    apply wpV_block
    refine wpV_loop 8 (fun i st => ∃ (I : Int), st = ⟨0, [u, u, u, .one (.iv (.int .u32 (G s0 i))), u, u, .one (.iv (.sl t 1 (E b))), i64 M, i64 J, u, u, u, u, u, u, u, i64 I, u, u, u, u, u, u, u, u, u, u, u, u, u], []⟩ ∧ I = i) (by omega) (by ((try (conv => lhs; cbv)); (try (with_reducible rfl)))) ⟨0, by rw [G0], rfl⟩ ?_
    rintro i hi st ⟨I, rfl, hI⟩
    by_cases hi8 : i < 8
    · have gs := Gs s0 i
      generalize G s0 (i + 1) = s2 at *
      generalize G s0 i = s1 at *
      have e3' := e3 s1
      generalize rm s1 = bb at *
      by_cases hb : bb = 1
      · rw [if_pos hb] at gs
        subst hb
        refine wpV_ofH (by ((try (conv => lhs; cbv)); (repeat ((first | (rewrite [e3']) | (rewrite [e4]) | (rewrite [e2]) | (rewrite [K.add]; rotate_left; focus ((try simp only [K.df, B.df, true_and, and_true]) <;> omega)) | (rewrite [K.nz]; rotate_left; focus ((try simp only [K.df, B.df, true_and, and_true]) <;> omega)) | (rewrite [K.ltT]; rotate_left; focus ((try simp only [K.df, B.df, true_and, and_true]) <;> omega)) | (rewrite [K.eqT]; rotate_left; focus ((try simp only [K.df, B.df, true_and, and_true]) <;> omega))); (try (conv => lhs; cbv)))); (exact rfl))) ?_
        refine headQ_ofH (by ((try (conv => lhs; cbv)); (exact rfl))) ?_
        refine ⟨hi8, _, by rw [gs], ?_⟩
        rw [K.pl_]; omega
      · rw [if_neg hb] at gs
        refine wpV_ofH (by ((try (conv => lhs; cbv)); (repeat ((first | (rewrite [e3']) | (rewrite [e4]) | (rewrite [K.add]; rotate_left; focus ((try simp only [K.df, B.df, true_and, and_true]) <;> omega)) | (rewrite [K.nz]; rotate_left; focus ((try simp only [K.df, B.df, true_and, and_true]) <;> omega)) | (rewrite [K.ltT]; rotate_left; focus ((try simp only [K.df, B.df, true_and, and_true]) <;> omega)) | (rewrite [K.eqF]; rotate_left; focus ((try simp only [K.df, B.df, true_and, and_true]) <;> omega))); (try (conv => lhs; cbv)))); (exact rfl))) ?_
        refine headQ_ofH (by ((try (conv => lhs; cbv)); (exact rfl))) ?_
        refine ⟨hi8, _, by rw [gs], ?_⟩
        rw [K.pl_]; omega
    · obtain rfl : i = 8 := by omega
      generalize G s0 8 = s8 at *
      refine wpV_ofH (by ((try (conv => lhs; cbv)); (repeat ((first | (rewrite [K.ltF]; rotate_left; focus ((try simp only [K.df, B.df, true_and, and_true]) <;> omega))); (try (conv => lhs; cbv)))); (exact rfl))) ?_
      show wpV _ _ _ _ _ _
      refine wpV_ofH (by ((try (conv => lhs; cbv)); (repeat ((first | (rewrite [K.add]; rotate_left; focus ((try simp only [K.df, B.df, true_and, and_true]) <;> omega))); (try (conv => lhs; cbv)))); (exact rfl))) ?_
      refine headQ_ofH (by ((try (conv => lhs; cbv)); (exact rfl))) ?_
      refine ⟨hjl, _, _, rfl, ?_, hgo⟩
      rw [K.pl_]; omega
  · obtain rfl : j = b.length := by omega
    rw [List.drop_of_length_le (Nat.le_refl _), foldS] at hgo
    subst hgo
    refine wpV_ofH (by ((try (conv => lhs; cbv)); (repeat ((first | (rewrite [K.ltF]; rotate_left; focus ((try simp only [K.df, B.df, true_and, and_true]) <;> omega))); (try (conv => lhs; cbv)))); (exact rfl))) ?_
    show wpV _ _ _ _ _ _
    refine wpV_ofH (by ((try (conv => lhs; cbv)); (repeat ((first | (rewrite [e2])); (try (conv => lhs; cbv)))); (exact rfl))) ?_
    (show finV _ _ _ = some _; ((try (conv => lhs; cbv)); (try (with_reducible rfl))); (try rfl))
theorem n20 (b : List Nat) (hb0 : b ≠ []) (h8 : ∀ x, x ∈ b → x < 256) (t : Bool) (hl : b.length ≤ 1000000000000) : Pn (b.length + 2001) 20 [.one (.iv (.sl t 1 (by8 b)))] [] (.one (.slo 0 0 (sealB b).length)) [.arr false false 1 (by8 (sealB b))] := by
  refine playN (b.length + 2000) rfl rfl fun A call hA hcall => ?_
  obtain ⟨pl, mi, ml, nt, tn, ad, sb, K⟩ := kit hA
  obtain ⟨E, ix, sn, ll, cc, sg, B⟩ := lkit hA K (0 : Nat) (fun b => [.int .u8 (nt b)]) 1
  have k57 := n57 b h8 t (by omega) (b.length + 2000) (by omega)
  rw [← hcall] at k57
  obtain ⟨s0, s1⟩ := sum_lt b
  obtain ⟨N, hN⟩ : ∃ N : Nat, N = (sumI b).toNat := ⟨_, rfl⟩
  have hS : sumI b = (N : Int) := by omega
  have hNl : N < 4294967296 := by omega
  unfold sealB
  rw [hS] at k57 ⊢
  have q : ∀ d i : Nat, d = 2 ^ (24 - 8 * i) → ∃ c : Int, A .ck .u8 (A .ar .quo .u32 (N : Int) (d : Int)) = c ∧ c = ((hb N i : Nat) : Int) := fun d i h => by
    refine ⟨_, rfl, ?_⟩
    have := quoN (b := d) hNl
    rw [← hA] at this
    rw [this, ckU8 hA, h]; rfl
  obtain ⟨c0, q0, hc0⟩ := q 16777216 0 rfl
  obtain ⟨c1, q1, hc1⟩ := q 65536 1 rfl
  obtain ⟨c2, q2, hc2⟩ := q 256 2 rfl
  obtain ⟨c3, q3, hc3⟩ : ∃ c : Int, A .ck .u8 (N : Int) = c ∧ c = ((hb N 3 : Nat) : Int) := by
    refine ⟨_, rfl, ?_⟩
    rw [ckU8 hA]
    show ((N % 256 : Nat) : Int) = ((N / 1 % 256 : Nat) : Int)
    rw [Nat.div_one]
  have f4 : by8 (hd4 (N : Int)) = [[.int .u8 c0], [.int .u8 c1], [.int .u8 c2], [.int .u8 c3]] := by rw [hc0, hc1, hc2, hc3]; rfl
  have a1 : A .app 1 [[.int .u8 c0], [.int .u8 c1], [.int .u8 c2], [.int .u8 c3]] (by8 b) = some (false, by8 (hd4 (N : Int) ++ b)) := by
    have hbl : b.length ≠ 0 := fun h => hb0 (List.length_eq_zero_iff.1 h)
    rw [hA, real_app, ← f4]; unfold rApp room
    rw [if_neg (by rw [by8_len]; rintro ⟨h, _⟩; exact hbl h), if_pos (by rw [by8_len, by8_len]; show ((4 : Nat) + b.length) * 1 ≤ _; omega), by8_app]
  have l2 : A .ln (by8 (hd4 (N : Int) ++ b)) = (hd4 (N : Int) ++ b).length := by rw [hA]; exact by8_len _
  clear hc0 hc1 hc2 hc3 f4 q
  generalize by8 (hd4 (N : Int) ++ b) = ys at *
  generalize (hd4 (N : Int) ++ b).length = yn at *
  generalize by8 b = xs at *
  rw [show ((16777216 : Nat) : Int) = 16777216 from rfl] at q0
  rw [show ((65536 : Nat) : Int) = 65536 from rfl] at q1
  rw [show ((256 : Nat) : Int) = 256 from rfl] at q2
  generalize (N : Int) = S at *
  apply wpV_seq; refine wpV_ofH (by ((try (conv => lhs; cbv)); (exact rfl))) ?_
  apply wpV_seq; refine wpV_ofH (by ((try (conv => lhs; cbv)); (repeat ((first | (rewrite [k57])); (try (conv => lhs; cbv)))); (exact rfl))) ?_
  apply wpV_seq; refine wpV_ofH (by ((try (conv => lhs; cbv)); (repeat ((first | (rewrite [q0]) | (rewrite [q1]) | (rewrite [q2]) | (rewrite [q3]) | (rewrite [K.nz]; rotate_left; focus ((try simp only [K.df, B.df, true_and, and_true]) <;> omega))); (try (conv => lhs; cbv)))); (exact rfl))) ?_
  refine wpV_ofH (by ((try (conv => lhs; cbv)); (repeat ((first | (rewrite [a1]) | (rewrite [l2])); (try (conv => lhs; cbv)))); (exact rfl))) ?_
  (show finV _ _ _ = some _; ((try (conv => lhs; cbv)); (try (with_reducible rfl))); (try rfl))
end Go.Proofs.Ytlljgefgbglmbaa
